/- The contract of whole.Parse. Printed by gen_txp.py. -/
import Derived.Test.YtnofbjcikfofgaaGreatTxS
namespace Go.Proofs.YtnofbjcikfofgaaGreat
open Go.RowKit

theorem valD_from (b : Bs) : ∀ x : Nat, b.foldl (fun a c => a * 10 + (c.toNat - 48)) x = x * 10 ^ b.length + valD b := by
  induction b with
  | nil => intro x; simp [valD]
  | cons c b ih =>
    intro x
    have h1 : valD (c :: b) = (0 * 10 + (c.toNat - 48)) * 10 ^ b.length + valD b := by
      show List.foldl _ _ b = _
      rw [ih]
    rw [List.foldl_cons, ih, h1, List.length_cons, Nat.pow_succ, Nat.add_mul, Nat.zero_mul, Nat.zero_add, Nat.mul_assoc, Nat.mul_comm 10]
    omega
theorem valD_append (a b : Bs) : valD (a ++ b) = valD a * 10 ^ b.length + valD b := by
  conv => lhs; unfold valD
  rw [List.foldl_append, valD_from]
  rfl
theorem valD_lt : ∀ {l : Bs}, l.all isDig = true → valD l < 10 ^ l.length
  | [], _ => by simp [valD]
  | c :: l, h => by
    rw [List.all_cons, Bool.and_eq_true] at h
    have h1 := valD_lt h.2
    have h2 := dig_lo h.1
    have h3 : valD (c :: l) = (c.toNat - 48) * 10 ^ l.length + valD l := by
      have := valD_append [c] l
      rw [List.singleton_append] at this
      rw [this]
      congr 2
      simp [valD]
    rw [h3, List.length_cons, Nat.pow_succ]
    have h4 : (c.toNat - 48) * 10 ^ l.length ≤ 9 * 10 ^ l.length := Nat.mul_le_mul_right _ (by omega)
    omega
theorem valD_step {s : ByteArray} {k : Nat} (h : k < s.size) : valD (s.data.toList.take (k + 1)) = valD (s.data.toList.take k) * 10 + (s[k].toNat - 48) := by
  rw [List.take_succ_eq_append_getElem (by simpa using h), valD_snoc]
  rfl
/-- An integer and an error. -/
def RetZE (w : World) (z er : Int) (e : Ending) (w' : World) : Prop := ∃ b A n c, e = .returned (.tuple #[.agg #[.bool b, .slice A n c], .int .i64 er]) ∧ ZCan w' w.heap.size b A n c z ∧ n ≤ 1000 ∧ Ext w w'
def lenS : Value → Nat
  | .string t => t.size
  | _ => 0
theorem retZE_zero {w w' : World} {z er er' : Int} (hz : z = 0) (he : er = er') (hE : Ext w w') : RetZE w z er' (.returned (.tuple #[.agg #[.bool false, .slice none 0 0], .int .i64 er])) w' := by
  subst hz he
  exact ⟨_, _, _, _, rfl, zcan_zero _ _, by omega, hE⟩
theorem row_newW {w : World} {B n : Nat} {v : Value} {xs : List Nat} (h : RowW w B v n xs) (hw : Words xs) : ∃ A c, v = .slice A n c ∧ NewW w B A n c xs := by
  rcases h.2 with ⟨rfl, rfl⟩ | ⟨g, cap, cur, rfl, hg, _⟩
  · have : xs = [] := List.length_eq_zero_iff.1 (by have := h.1; simpa [u32s] using this)
    subst this
    exact ⟨none, 0, rfl, WordsAt.nil _ _, Nat.le_refl _, by omega, fun ad h => by cases h⟩
  · exact ⟨_, _, rfl, own_new h hw hg⟩
theorem row_own {w : World} {B n : Nat} {v : Value} {xs : List Nat} (h : RowW w B v n xs) (hn : 0 < n) : ∃ g c, v = .slice (some ⟨g, 0, none⟩) n c ∧ OwnW w B g n c xs := by
  rcases h.2 with ⟨rfl, rfl⟩ | ⟨g, cap, cur, rfl, hg, _⟩
  · omega
  · exact ⟨g, cap, rfl, h⟩

set_option maxRecDepth 100000 in
set_option maxHeartbeats 8000000 in
theorem zparse_any (s : ByteArray) (w : World) (hs : s.size ≤ maxLen) :
    Calls Tryz.prog 94 #[.string s] w (RetZE w (zV s.data.toList) (zE s.data.toList)) := by
  have hdl : (digD s.data.toList).length ≤ s.size := by
    have := len_list s
    unfold digD
    split
    · rw [List.length_tail]; omega
    · omega
  obtain ⟨D, hD⟩ : ∃ D, digD s.data.toList = D := ⟨_, rfl⟩
  obtain ⟨ng, hng⟩ : ∃ b, negB s.data.toList = b := ⟨_, rfl⟩
  have HZE : Hid (zE s.data.toList = if 1000 < D.length then 5 else if !decB D || (ng && D == [48]) then 3 else 0) := by
    unfold Hid zE
    rw [hD, hng]
  have HZV : Hid (zV s.data.toList = if zE s.data.toList = 0 then sgn ng (valD D) else 0) := by
    unfold Hid zV
    rw [hD, hng]
  rw [hD] at hdl
  have HD := Lib.hid hD
  have HNG := Lib.hid hng
  clear hD hng
  have hsz := bs_size D
  have HDS := Lib.hid hsz
  obtain ⟨d, hd⟩ : ∃ d, bs D = d := ⟨_, rfl⟩
  have HDD : Hid (d.data.toList = D) := by unfold Hid; rw [← hd, bs_list]
  rw [hd] at hsz HDS
  have HDB := Lib.hid hd
  clear hd hsz
  have hds : d.size ≤ s.size := by rw [HDS.out]; exact hdl
  go_enter Tryz.func94, Tryz.ntmps94
  go_wp2_with fail
  refine (cutneg_any s _ hs).mono ?_
  rintro e w' ⟨rfl, rfl⟩
  rw [HD.out, HNG.out, HDB.out]
  have hE : Ext w (w.alloc (.cells #[.bool false, .slice none 0 0] 49)) := Ext.al Ext.rfl' _
  obtain ⟨d0, d1, f0, f1, hsz1⟩ := zcell_of (w := w) Ext.rfl'
  have HSZ : Hid ((w.alloc (.cells #[.bool false, .slice none 0 0] 49)).heap.size = w.heap.size + 1) := by unfold Hid; simp
  unfold maxLen at hs
  by_cases hlong : 1000 < d.size
  · have hb : decide ((1000 : Int) < (d.size : Int)) = true := by simp; omega
    have hb2 : decide (1000 < d.size) = true := by simp; omega
    have HR : Hid (zE s.data.toList = 5) := by unfold Hid; rw [HZE.out, if_pos (by rw [← HDS.out]; exact hlong)]
    have HV0 : Hid (zV s.data.toList = 0) := by unfold Hid; rw [HZV.out, HR.out]; rfl
    go_wp2_with fail
    refine bodyPost_ret (v := .tuple #[.agg #[.bool false, .slice none 0 0], .int .i64 5]) (by simp [results, Tryz.results94, go_sem]) rfl ?_
    exact retZE_zero HV0.out HR.out.symm hE
  · have hb : decide ((1000 : Int) < (d.size : Int)) = false := by simp; omega
    have hb2 : decide (1000 < d.size) = false := by simp; omega
    have HZE2 : Hid (zE s.data.toList = if !decB D || (ng && D == [48]) then 3 else 0) := by
      unfold Hid; rw [HZE.out, if_neg (by rw [← HDS.out]; exact hlong)]
    clear HZE
    go_wp2_with fail
    refine (dec_any d _ (by unfold maxLen; omega)).mono ?_
    rintro e w' ⟨rfl, rfl⟩
    rw [HDD.out]
    obtain ⟨db, hdb⟩ : ∃ b, decB D = b := ⟨_, rfl⟩
    rw [hdb] at HZE2 ⊢
    have HDEC := Lib.hid hdb
    clear hdb
    obtain ⟨z0, hz0⟩ : ∃ b, (d.toList == [48]) = b := ⟨_, rfl⟩
    have HZ0 : Hid ((D == [48]) = z0) := by unfold Hid; rw [← hz0, ByteArray.toList_eq, HDD.out]
    rw [HZ0.out] at HZE2
    have HNG2 := HNG
    by_cases hbad : db = false ∨ (ng = true ∧ z0 = true)
    · have HR : Hid (zE s.data.toList = 3) := by
        unfold Hid
        rw [HZE2.out, if_pos]
        rcases hbad with rfl | ⟨rfl, rfl⟩ <;> simp
      have HV0 : Hid (zV s.data.toList = 0) := by unfold Hid; rw [HZV.out, HR.out]; rfl
      clear HZE2 HZ0 HDEC HNG2 HNG
      rcases hbad with rfl | ⟨rfl, rfl⟩
      · go_wp2_with fail
        refine bodyPost_ret (v := .tuple #[.agg #[.bool false, .slice none 0 0], .int .i64 3]) (by simp [results, Tryz.results94, go_sem]) rfl ?_
        exact retZE_zero HV0.out HR.out.symm hE
      · cases db
        · go_wp2_with fail
          refine bodyPost_ret (v := .tuple #[.agg #[.bool false, .slice none 0 0], .int .i64 3]) (by simp [results, Tryz.results94, go_sem]) rfl ?_
          exact retZE_zero HV0.out HR.out.symm hE
        · go_wp2_with fail
          refine bodyPost_ret (v := .tuple #[.agg #[.bool false, .slice none 0 0], .int .i64 3]) (by simp [results, Tryz.results94, go_sem]) rfl ?_
          exact retZE_zero HV0.out HR.out.symm hE
    · obtain rfl : db = true := by
        cases db
        · exact absurd (.inl rfl) hbad
        · rfl
      have hnz : ng = false ∨ z0 = false := by
        cases ng
        · exact .inl rfl
        · cases z0
          · exact .inr rfl
          · exact absurd (.inr ⟨rfl, rfl⟩) hbad
      have HR : Hid (zE s.data.toList = 0) := by
        unfold Hid
        rw [HZE2.out, if_neg]
        rcases hnz with rfl | rfl <;> simp
      have HV : Hid (zV s.data.toList = sgn ng (valD D)) := by unfold Hid; rw [HZV.out, HR.out, if_pos rfl]
      clear hbad HZE2 HZV HNG2 HNG HD
      have hall : D.all isDig = true := by
        have := HDEC.out
        unfold decB at this
        rw [Bool.and_eq_true] at this
        exact (allC_all this.1).1
      have HA := Lib.hid hall
      clear hall HDEC
      have hdsz : d.size ≤ 1000 := by omega
      have HTN := Lib.hid hnz
      clear hnz
      have HBS := Lib.hid hs
      have hrest : ∀ (r : ByteArray) (j : Nat), r.data.toList = D.drop j → r.size = d.size - j := fun r j h => by
        have := len_list r
        rw [h, List.length_drop] at this
        rw [HDS.out]
        omega
      have HREST := Lib.hid hrest
      clear hrest
      have HE0 := Lib.hid hE
      obtain ⟨B, hB⟩ : ∃ B, w.heap.size + 1 = B := ⟨_, rfl⟩
      rw [hB] at HSZ
      have HBB := Lib.hid hB
      clear hB hE d0 d1 f0 f1 hsz1
      cases ng
      rotate_left
      · obtain rfl : z0 = false := by
          rcases HTN.out with h | h
          · cases h
          · exact h
        go_wp2_with fail
        go_loopw [4, 6] (fun r v wr => ∃ (j n : Nat) (t : ByteArray) (ws : List Nat), r = .string t ∧ j ≤ d.size ∧ n ≤ j ∧ Hid ((0 < n ∨ v = .slice none 0 0) ∧ (n = 0 → j = 0)) ∧ Hid (t.data.toList = D.drop j) ∧ Hid (RowW wr B v n ws) ∧ Hid (Words ws) ∧ Hid (natOf ws = valD (D.take j)) ∧ Hid (Below B (w.alloc (.cells #[.bool false, .slice none 0 0] 49)) wr)) (fun r _ _ => lenS r)
        case atStart => exact ⟨0, 0, d, [], rfl, by omega, by omega, ⟨.inr rfl, fun _ => rfl⟩, by rw [HDD.out]; rfl, rown_nil _ _ _ _, Words.nil, rfl, Below.refl _ _⟩
        case round =>
          obtain ⟨j, n, t, ws, rfl, hj, hnj, HN, HT, HR6, HW, HVW, HE⟩ := hrel
          have htl1 : t.size + j ≤ d.size := by have := HREST.out t j HT.out; omega
          have htl2 : d.size ≤ t.size + j := by have := HREST.out t j HT.out; omega
          have hwz : B ≤ wr.heap.size := by have := HE.out.size; rw [HSZ.out] at this; exact this
          by_cases hlt : j < d.size
          · have hts : 0 < t.size := by omega
            have hbv : decide ((0 : Int) < (t.size : Int)) = true := by simp; omega
            have hbv2 : decide (0 < t.size) = true := by simp; omega
            have htd : t.data.toList.all isDig = true := by
              rw [HT.out]
              exact List.all_eq_true.2 fun c hc => List.all_eq_true.1 HA.out c (List.mem_of_mem_drop hc)
            have HTA := Lib.hid htd
            clear htd
            go_wp2_with fail
            · have h9 : t.size ≤ 9 := by omega
              have hm9 : t.size ≤ 9 := by omega
              have hm0 : 0 < t.size := by omega
              have hmt : t.size ≤ t.size := by omega
              go_loopw [8, 9, 10, 38] (fun v p _ i wq => ∃ (k V Pw : Nat), k ≤ t.size ∧ i = .int .i64 (k : Int) ∧ v = .int .u64 (V : Int) ∧ p = .int .u64 (Pw : Int) ∧ V < Pw ∧ Pw ≤ 1000000000 ∧ Hid (V = valD (t.data.toList.take k)) ∧ Hid (Pw = 10 ^ k) ∧ wq = wr) (fun _ _ _ i _ => t.size - (intOf i).toNat)
              case atStart => exact ⟨0, 0, 1, by omega, rfl, rfl, rfl, by omega, by omega, by simp [Hid, valD], by simp [Hid], rfl⟩
              case round =>
                obtain ⟨k, V, Pw, hk, rfl, rfl, rfl, hVP, hPw, HV9, HP9, rfl⟩ := hrel
                by_cases hkm : k < t.size
                · have hkv : decide ((k : Int) < (t.size : Int)) = true := by simp; omega
                  have hkv2 : decide (k < t.size) = true := by simp; omega
                  have hkt : k < t.size := by omega
                  have hz0 : (0 : Int) ≤ (k : Int) := by omega
                  have hzn : (k : Int) < (t.size : Int) := by omega
                  have hdig := dig_lo (List.all_eq_true.1 HTA.out t[k] (by rw [show t[k] = t.data.toList[k]'(by simpa using hkt) from rfl]; exact List.getElem_mem _))
                  have HST := Lib.hid (valD_step hkt)
                  have hP10 : Pw * 10 ≤ 1000000000 := by
                    rw [HP9.out, ← Nat.pow_succ]
                    exact Nat.le_trans (Nat.pow_le_pow_right (by omega) (show k + 1 ≤ 9 by omega)) (by decide)
                  obtain ⟨hdig1, hdig2⟩ := hdig
                  have hw8 : IntKind.u8.wrap ((t[k].toNat : Int) - 48) = (t[k].toNat : Int) - 48 := by
                    simp [IntKind.wrap, IntKind.bits, IntKind.signed]
                    omega
                  go_wp2_with fail
                  go_roundw
                  case rel =>
                    refine ⟨k + 1, V * 10 + (t[k].toNat - 48), Pw * 10, by omega, by go_num, ?_, ?_, by omega, hP10, ?_, ?_, trivial⟩
                    · refine congrArg (Value.int .u64) ?_
                      omega
                    · refine congrArg (Value.int .u64) ?_
                      omega
                    · unfold Hid; rw [HST.out, ← HV9.out]
                    · unfold Hid; rw [Nat.pow_succ, ← HP9.out]
                  case measure => simp [intOf]; omega
                · obtain rfl : k = t.size := by omega
                  have hkv : decide ((t.size : Int) < (t.size : Int)) = false := by simp
                  have hkv2 : decide (t.size < t.size) = false := by simp
                  go_wp2_with fail
                  have hv := valD_lt (l := t.data.toList.take t.size) (List.all_eq_true.2 fun c hc => List.all_eq_true.1 HTA.out c (List.mem_of_mem_take hc))
                  refine (scale_any B n _ ws Pw V wr HR6.out hwz HW.out (by omega) HN.out.1 hPw (by omega)).mono ?_
                  rintro e w2 ⟨v2, ys, rfl, hr2, hw2, hv2, hb2, hs2⟩
                  have HR7 := Lib.hid hr2
                  have HW7 := Lib.hid hw2
                  have HE7 := Lib.hid (HE.out.trans hb2)
                  have HV7 : Hid (natOf ys = valD (D.take (j + t.size))) := by
                    unfold Hid
                    rw [hv2, HVW.out, HP9.out, HV9.out, HT.out, List.take_add, valD_append]
                    congr 3
                    rw [List.length_take, List.length_drop, ← HDS.out]
                    omega
                  have HT7 : Hid ((t.extract t.size t.size).data.toList = D.drop (j + t.size)) := by
                    unfold Hid
                    rw [ext_list, HT.out, List.drop_drop, List.take_of_length_le]
                    rw [List.length_drop, ← HDS.out]
                    omega
                  clear hr2 hw2 hv2 hb2 hs2 hv
                  go_wp2_with fail
                  go_roundw
                  case rel => exact ⟨j + t.size, n + 1, _, ys, rfl, by omega, by omega, ⟨.inl (by omega), fun h => by omega⟩, (by first | exact HT7 | (show ByteArray.empty.data.toList = _; rw [List.drop_of_length_le (by rw [← HDS.out]; omega)]; rfl)), HR7, HW7, HV7, HE7⟩
                  case measure => simp [lenS]; omega
            · have h9 : 9 ≤ t.size := by omega
              have hm9 : 9 ≤ 9 := by omega
              have hm0 : 0 < 9 := by omega
              have hmt : 9 ≤ t.size := by omega
              go_loopw [8, 9, 10, 38] (fun v p _ i wq => ∃ (k V Pw : Nat), k ≤ 9 ∧ i = .int .i64 (k : Int) ∧ v = .int .u64 (V : Int) ∧ p = .int .u64 (Pw : Int) ∧ V < Pw ∧ Pw ≤ 1000000000 ∧ Hid (V = valD (t.data.toList.take k)) ∧ Hid (Pw = 10 ^ k) ∧ wq = wr) (fun _ _ _ i _ => 9 - (intOf i).toNat)
              case atStart => exact ⟨0, 0, 1, by omega, rfl, rfl, rfl, by omega, by omega, by simp [Hid, valD], by simp [Hid], rfl⟩
              case round =>
                obtain ⟨k, V, Pw, hk, rfl, rfl, rfl, hVP, hPw, HV9, HP9, rfl⟩ := hrel
                by_cases hkm : k < 9
                · have hkv : decide ((k : Int) < (9 : Int)) = true := by simp; omega
                  have hkv2 : decide (k < 9) = true := by simp; omega
                  have hkt : k < t.size := by omega
                  have hz0 : (0 : Int) ≤ (k : Int) := by omega
                  have hzn : (k : Int) < (t.size : Int) := by omega
                  have hdig := dig_lo (List.all_eq_true.1 HTA.out t[k] (by rw [show t[k] = t.data.toList[k]'(by simpa using hkt) from rfl]; exact List.getElem_mem _))
                  have HST := Lib.hid (valD_step hkt)
                  have hP10 : Pw * 10 ≤ 1000000000 := by
                    rw [HP9.out, ← Nat.pow_succ]
                    exact Nat.le_trans (Nat.pow_le_pow_right (by omega) (show k + 1 ≤ 9 by omega)) (by decide)
                  obtain ⟨hdig1, hdig2⟩ := hdig
                  have hw8 : IntKind.u8.wrap ((t[k].toNat : Int) - 48) = (t[k].toNat : Int) - 48 := by
                    simp [IntKind.wrap, IntKind.bits, IntKind.signed]
                    omega
                  go_wp2_with fail
                  go_roundw
                  case rel =>
                    refine ⟨k + 1, V * 10 + (t[k].toNat - 48), Pw * 10, by omega, by go_num, ?_, ?_, by omega, hP10, ?_, ?_, trivial⟩
                    · refine congrArg (Value.int .u64) ?_
                      omega
                    · refine congrArg (Value.int .u64) ?_
                      omega
                    · unfold Hid; rw [HST.out, ← HV9.out]
                    · unfold Hid; rw [Nat.pow_succ, ← HP9.out]
                  case measure => simp [intOf]; omega
                · obtain rfl : k = 9 := by omega
                  have hkv : decide ((9 : Int) < (9 : Int)) = false := by simp
                  have hkv2 : decide (9 < 9) = false := by simp
                  go_wp2_with fail
                  have hv := valD_lt (l := t.data.toList.take 9) (List.all_eq_true.2 fun c hc => List.all_eq_true.1 HTA.out c (List.mem_of_mem_take hc))
                  refine (scale_any B n _ ws Pw V wr HR6.out hwz HW.out (by omega) HN.out.1 hPw (by omega)).mono ?_
                  rintro e w2 ⟨v2, ys, rfl, hr2, hw2, hv2, hb2, hs2⟩
                  have HR7 := Lib.hid hr2
                  have HW7 := Lib.hid hw2
                  have HE7 := Lib.hid (HE.out.trans hb2)
                  have HV7 : Hid (natOf ys = valD (D.take (j + 9))) := by
                    unfold Hid
                    rw [hv2, HVW.out, HP9.out, HV9.out, HT.out, List.take_add, valD_append]
                    congr 3
                    rw [List.length_take, List.length_drop, ← HDS.out]
                    omega
                  have HT7 : Hid ((t.extract 9 t.size).data.toList = D.drop (j + 9)) := by
                    unfold Hid
                    rw [ext_list, HT.out, List.drop_drop, List.take_of_length_le]
                    rw [List.length_drop, ← HDS.out]
                    omega
                  clear hr2 hw2 hv2 hb2 hs2 hv
                  go_wp2_with fail
                  go_roundw
                  case rel => exact ⟨j + 9, n + 1, _, ys, rfl, by omega, by omega, ⟨.inl (by omega), fun h => by omega⟩, (by first | exact HT7 | (show ByteArray.empty.data.toList = _; rw [List.drop_of_length_le (by rw [← HDS.out]; omega)]; rfl)), HR7, HW7, HV7, HE7⟩
                  case measure => simp [lenS]; omega
          · have HJ : Hid (j = d.size) := by unfold Hid; omega
            have hbv : decide ((0 : Int) < (t.size : Int)) = false := decide_eq_false (by omega)
            have hbv2 : decide (0 < t.size) = false := decide_eq_false (by omega)
            obtain ⟨A, c, rfl, hnw⟩ := row_newW HR6.out HW.out
            go_wp2_with fail
            refine (build_any _ A n c ws wr B hnw.1 hnw.2.1 hnw.2.2.1 hnw.2.2.2).mono ?_
            rintro e w2 ⟨b', A', n', c', rfl, hz, hE2⟩
            have HZ2 : Hid (ZCan w2 B b' A' n' c' (zV s.data.toList)) := by
              unfold Hid
              rw [HV.out, ← List.take_length (l := D), ← HDS.out, ← HJ.out, ← HVW.out]
              exact hz
            have HE3 : Hid (Ext (w.alloc (.cells #[.bool false, .slice none 0 0] 49)) w2) := (HE.out.trans (hE2.mono hwz)).mono (show (w.alloc (.cells #[.bool false, .slice none 0 0] 49)).heap.size ≤ B by rw [HSZ.out]; exact Nat.le_refl _)
            have HE4 : Hid (Below B (w.alloc (.cells #[.bool false, .slice none 0 0] 49)) w2) := HE.out.trans (hE2.mono hwz)
            have g0 : w2.cell? ⟨w.heap.size, 0, none⟩ = some (.bool false) := (HE4.out.cell (p := ⟨w.heap.size, 0, none⟩) (by rw [← HBB.out]; exact Nat.lt_succ_self _)).trans (by simp [go_sem])
            have g1 : w2.cell? ⟨w.heap.size, 1, none⟩ = some (.slice none 0 0) := (HE4.out.cell (p := ⟨w.heap.size, 1, none⟩) (by rw [← HBB.out]; exact Nat.lt_succ_self _)).trans (by simp [go_sem])
            have f0 : w2.frozen? ⟨w.heap.size, 0, none⟩ = false := (HE4.out.frozen (p := ⟨w.heap.size, 0, none⟩) (by rw [← HBB.out]; exact Nat.lt_succ_self _)).trans (by simp [go_sem])
            have f1 : w2.frozen? ⟨w.heap.size, 1, none⟩ = false := (HE4.out.frozen (p := ⟨w.heap.size, 1, none⟩) (by rw [← HBB.out]; exact Nat.lt_succ_self _)).trans (by simp [go_sem])
            have hbd : (sgn true (natOf ws)).natAbs < 4294967296 ^ n := by
              rw [sgn_abs]
              have hl : ws.length = n := by have := HR6.out.1; simpa [u32s] using this
              have := natOf_lt HW.out
              rwa [hl] at this
            have HNB : Hid (n' ≤ 1000) := by have := words_bd hz hbd; unfold Hid; omega
            clear hz hE2 hnw hbd
            go_wp2_with fail
            refine bodyPost_ret (v := .tuple #[.agg #[.bool b', .slice A' n' c'], .int .i64 0]) (by simp [results, Tryz.results94, go_sem, g0, g1]) rfl ?_
            rw [HR.out]
            refine ⟨_, _, _, _, rfl, ((HZ2.out.put (p := ⟨w.heap.size, 0, none⟩) (by rw [← HBB.out]; exact Nat.lt_succ_self _) _).put (p := ⟨w.heap.size, 1, none⟩) (by rw [← HBB.out]; exact Nat.lt_succ_self _) _).base (by rw [← HBB.out]; omega), HNB.out, Below.setCell (Below.setCell (Ext.new HE3.out) (p := ⟨w.heap.size, 0, none⟩) (Nat.le_refl _) _) (p := ⟨w.heap.size, 1, none⟩) (Nat.le_refl _) _⟩
      · go_wp2_with fail
        go_loopw [4, 6] (fun r v wr => ∃ (j n : Nat) (t : ByteArray) (ws : List Nat), r = .string t ∧ j ≤ d.size ∧ n ≤ j ∧ Hid ((0 < n ∨ v = .slice none 0 0) ∧ (n = 0 → j = 0)) ∧ Hid (t.data.toList = D.drop j) ∧ Hid (RowW wr B v n ws) ∧ Hid (Words ws) ∧ Hid (natOf ws = valD (D.take j)) ∧ Hid (Below B (w.alloc (.cells #[.bool false, .slice none 0 0] 49)) wr)) (fun r _ _ => lenS r)
        case atStart => exact ⟨0, 0, d, [], rfl, by omega, by omega, ⟨.inr rfl, fun _ => rfl⟩, by rw [HDD.out]; rfl, rown_nil _ _ _ _, Words.nil, rfl, Below.refl _ _⟩
        case round =>
          obtain ⟨j, n, t, ws, rfl, hj, hnj, HN, HT, HR6, HW, HVW, HE⟩ := hrel
          have htl1 : t.size + j ≤ d.size := by have := HREST.out t j HT.out; omega
          have htl2 : d.size ≤ t.size + j := by have := HREST.out t j HT.out; omega
          have hwz : B ≤ wr.heap.size := by have := HE.out.size; rw [HSZ.out] at this; exact this
          by_cases hlt : j < d.size
          · have hts : 0 < t.size := by omega
            have hbv : decide ((0 : Int) < (t.size : Int)) = true := by simp; omega
            have hbv2 : decide (0 < t.size) = true := by simp; omega
            have htd : t.data.toList.all isDig = true := by
              rw [HT.out]
              exact List.all_eq_true.2 fun c hc => List.all_eq_true.1 HA.out c (List.mem_of_mem_drop hc)
            have HTA := Lib.hid htd
            clear htd
            go_wp2_with fail
            · have h9 : t.size ≤ 9 := by omega
              have hm9 : t.size ≤ 9 := by omega
              have hm0 : 0 < t.size := by omega
              have hmt : t.size ≤ t.size := by omega
              go_loopw [8, 9, 10, 38] (fun v p _ i wq => ∃ (k V Pw : Nat), k ≤ t.size ∧ i = .int .i64 (k : Int) ∧ v = .int .u64 (V : Int) ∧ p = .int .u64 (Pw : Int) ∧ V < Pw ∧ Pw ≤ 1000000000 ∧ Hid (V = valD (t.data.toList.take k)) ∧ Hid (Pw = 10 ^ k) ∧ wq = wr) (fun _ _ _ i _ => t.size - (intOf i).toNat)
              case atStart => exact ⟨0, 0, 1, by omega, rfl, rfl, rfl, by omega, by omega, by simp [Hid, valD], by simp [Hid], rfl⟩
              case round =>
                obtain ⟨k, V, Pw, hk, rfl, rfl, rfl, hVP, hPw, HV9, HP9, rfl⟩ := hrel
                by_cases hkm : k < t.size
                · have hkv : decide ((k : Int) < (t.size : Int)) = true := by simp; omega
                  have hkv2 : decide (k < t.size) = true := by simp; omega
                  have hkt : k < t.size := by omega
                  have hz0 : (0 : Int) ≤ (k : Int) := by omega
                  have hzn : (k : Int) < (t.size : Int) := by omega
                  have hdig := dig_lo (List.all_eq_true.1 HTA.out t[k] (by rw [show t[k] = t.data.toList[k]'(by simpa using hkt) from rfl]; exact List.getElem_mem _))
                  have HST := Lib.hid (valD_step hkt)
                  have hP10 : Pw * 10 ≤ 1000000000 := by
                    rw [HP9.out, ← Nat.pow_succ]
                    exact Nat.le_trans (Nat.pow_le_pow_right (by omega) (show k + 1 ≤ 9 by omega)) (by decide)
                  obtain ⟨hdig1, hdig2⟩ := hdig
                  have hw8 : IntKind.u8.wrap ((t[k].toNat : Int) - 48) = (t[k].toNat : Int) - 48 := by
                    simp [IntKind.wrap, IntKind.bits, IntKind.signed]
                    omega
                  go_wp2_with fail
                  go_roundw
                  case rel =>
                    refine ⟨k + 1, V * 10 + (t[k].toNat - 48), Pw * 10, by omega, by go_num, ?_, ?_, by omega, hP10, ?_, ?_, trivial⟩
                    · refine congrArg (Value.int .u64) ?_
                      omega
                    · refine congrArg (Value.int .u64) ?_
                      omega
                    · unfold Hid; rw [HST.out, ← HV9.out]
                    · unfold Hid; rw [Nat.pow_succ, ← HP9.out]
                  case measure => simp [intOf]; omega
                · obtain rfl : k = t.size := by omega
                  have hkv : decide ((t.size : Int) < (t.size : Int)) = false := by simp
                  have hkv2 : decide (t.size < t.size) = false := by simp
                  go_wp2_with fail
                  have hv := valD_lt (l := t.data.toList.take t.size) (List.all_eq_true.2 fun c hc => List.all_eq_true.1 HTA.out c (List.mem_of_mem_take hc))
                  refine (scale_any B n _ ws Pw V wr HR6.out hwz HW.out (by omega) HN.out.1 hPw (by omega)).mono ?_
                  rintro e w2 ⟨v2, ys, rfl, hr2, hw2, hv2, hb2, hs2⟩
                  have HR7 := Lib.hid hr2
                  have HW7 := Lib.hid hw2
                  have HE7 := Lib.hid (HE.out.trans hb2)
                  have HV7 : Hid (natOf ys = valD (D.take (j + t.size))) := by
                    unfold Hid
                    rw [hv2, HVW.out, HP9.out, HV9.out, HT.out, List.take_add, valD_append]
                    congr 3
                    rw [List.length_take, List.length_drop, ← HDS.out]
                    omega
                  have HT7 : Hid ((t.extract t.size t.size).data.toList = D.drop (j + t.size)) := by
                    unfold Hid
                    rw [ext_list, HT.out, List.drop_drop, List.take_of_length_le]
                    rw [List.length_drop, ← HDS.out]
                    omega
                  clear hr2 hw2 hv2 hb2 hs2 hv
                  go_wp2_with fail
                  go_roundw
                  case rel => exact ⟨j + t.size, n + 1, _, ys, rfl, by omega, by omega, ⟨.inl (by omega), fun h => by omega⟩, (by first | exact HT7 | (show ByteArray.empty.data.toList = _; rw [List.drop_of_length_le (by rw [← HDS.out]; omega)]; rfl)), HR7, HW7, HV7, HE7⟩
                  case measure => simp [lenS]; omega
            · have h9 : 9 ≤ t.size := by omega
              have hm9 : 9 ≤ 9 := by omega
              have hm0 : 0 < 9 := by omega
              have hmt : 9 ≤ t.size := by omega
              go_loopw [8, 9, 10, 38] (fun v p _ i wq => ∃ (k V Pw : Nat), k ≤ 9 ∧ i = .int .i64 (k : Int) ∧ v = .int .u64 (V : Int) ∧ p = .int .u64 (Pw : Int) ∧ V < Pw ∧ Pw ≤ 1000000000 ∧ Hid (V = valD (t.data.toList.take k)) ∧ Hid (Pw = 10 ^ k) ∧ wq = wr) (fun _ _ _ i _ => 9 - (intOf i).toNat)
              case atStart => exact ⟨0, 0, 1, by omega, rfl, rfl, rfl, by omega, by omega, by simp [Hid, valD], by simp [Hid], rfl⟩
              case round =>
                obtain ⟨k, V, Pw, hk, rfl, rfl, rfl, hVP, hPw, HV9, HP9, rfl⟩ := hrel
                by_cases hkm : k < 9
                · have hkv : decide ((k : Int) < (9 : Int)) = true := by simp; omega
                  have hkv2 : decide (k < 9) = true := by simp; omega
                  have hkt : k < t.size := by omega
                  have hz0 : (0 : Int) ≤ (k : Int) := by omega
                  have hzn : (k : Int) < (t.size : Int) := by omega
                  have hdig := dig_lo (List.all_eq_true.1 HTA.out t[k] (by rw [show t[k] = t.data.toList[k]'(by simpa using hkt) from rfl]; exact List.getElem_mem _))
                  have HST := Lib.hid (valD_step hkt)
                  have hP10 : Pw * 10 ≤ 1000000000 := by
                    rw [HP9.out, ← Nat.pow_succ]
                    exact Nat.le_trans (Nat.pow_le_pow_right (by omega) (show k + 1 ≤ 9 by omega)) (by decide)
                  obtain ⟨hdig1, hdig2⟩ := hdig
                  have hw8 : IntKind.u8.wrap ((t[k].toNat : Int) - 48) = (t[k].toNat : Int) - 48 := by
                    simp [IntKind.wrap, IntKind.bits, IntKind.signed]
                    omega
                  go_wp2_with fail
                  go_roundw
                  case rel =>
                    refine ⟨k + 1, V * 10 + (t[k].toNat - 48), Pw * 10, by omega, by go_num, ?_, ?_, by omega, hP10, ?_, ?_, trivial⟩
                    · refine congrArg (Value.int .u64) ?_
                      omega
                    · refine congrArg (Value.int .u64) ?_
                      omega
                    · unfold Hid; rw [HST.out, ← HV9.out]
                    · unfold Hid; rw [Nat.pow_succ, ← HP9.out]
                  case measure => simp [intOf]; omega
                · obtain rfl : k = 9 := by omega
                  have hkv : decide ((9 : Int) < (9 : Int)) = false := by simp
                  have hkv2 : decide (9 < 9) = false := by simp
                  go_wp2_with fail
                  have hv := valD_lt (l := t.data.toList.take 9) (List.all_eq_true.2 fun c hc => List.all_eq_true.1 HTA.out c (List.mem_of_mem_take hc))
                  refine (scale_any B n _ ws Pw V wr HR6.out hwz HW.out (by omega) HN.out.1 hPw (by omega)).mono ?_
                  rintro e w2 ⟨v2, ys, rfl, hr2, hw2, hv2, hb2, hs2⟩
                  have HR7 := Lib.hid hr2
                  have HW7 := Lib.hid hw2
                  have HE7 := Lib.hid (HE.out.trans hb2)
                  have HV7 : Hid (natOf ys = valD (D.take (j + 9))) := by
                    unfold Hid
                    rw [hv2, HVW.out, HP9.out, HV9.out, HT.out, List.take_add, valD_append]
                    congr 3
                    rw [List.length_take, List.length_drop, ← HDS.out]
                    omega
                  have HT7 : Hid ((t.extract 9 t.size).data.toList = D.drop (j + 9)) := by
                    unfold Hid
                    rw [ext_list, HT.out, List.drop_drop, List.take_of_length_le]
                    rw [List.length_drop, ← HDS.out]
                    omega
                  clear hr2 hw2 hv2 hb2 hs2 hv
                  go_wp2_with fail
                  go_roundw
                  case rel => exact ⟨j + 9, n + 1, _, ys, rfl, by omega, by omega, ⟨.inl (by omega), fun h => by omega⟩, (by first | exact HT7 | (show ByteArray.empty.data.toList = _; rw [List.drop_of_length_le (by rw [← HDS.out]; omega)]; rfl)), HR7, HW7, HV7, HE7⟩
                  case measure => simp [lenS]; omega
          · have HJ : Hid (j = d.size) := by unfold Hid; omega
            have hbv : decide ((0 : Int) < (t.size : Int)) = false := decide_eq_false (by omega)
            have hbv2 : decide (0 < t.size) = false := decide_eq_false (by omega)
            obtain ⟨A, c, rfl, hnw⟩ := row_newW HR6.out HW.out
            go_wp2_with fail
            refine (build_any _ A n c ws wr B hnw.1 hnw.2.1 hnw.2.2.1 hnw.2.2.2).mono ?_
            rintro e w2 ⟨b', A', n', c', rfl, hz, hE2⟩
            have HZ2 : Hid (ZCan w2 B b' A' n' c' (zV s.data.toList)) := by
              unfold Hid
              rw [HV.out, ← List.take_length (l := D), ← HDS.out, ← HJ.out, ← HVW.out]
              exact hz
            have HE3 : Hid (Ext (w.alloc (.cells #[.bool false, .slice none 0 0] 49)) w2) := (HE.out.trans (hE2.mono hwz)).mono (show (w.alloc (.cells #[.bool false, .slice none 0 0] 49)).heap.size ≤ B by rw [HSZ.out]; exact Nat.le_refl _)
            have HE4 : Hid (Below B (w.alloc (.cells #[.bool false, .slice none 0 0] 49)) w2) := HE.out.trans (hE2.mono hwz)
            have g0 : w2.cell? ⟨w.heap.size, 0, none⟩ = some (.bool false) := (HE4.out.cell (p := ⟨w.heap.size, 0, none⟩) (by rw [← HBB.out]; exact Nat.lt_succ_self _)).trans (by simp [go_sem])
            have g1 : w2.cell? ⟨w.heap.size, 1, none⟩ = some (.slice none 0 0) := (HE4.out.cell (p := ⟨w.heap.size, 1, none⟩) (by rw [← HBB.out]; exact Nat.lt_succ_self _)).trans (by simp [go_sem])
            have f0 : w2.frozen? ⟨w.heap.size, 0, none⟩ = false := (HE4.out.frozen (p := ⟨w.heap.size, 0, none⟩) (by rw [← HBB.out]; exact Nat.lt_succ_self _)).trans (by simp [go_sem])
            have f1 : w2.frozen? ⟨w.heap.size, 1, none⟩ = false := (HE4.out.frozen (p := ⟨w.heap.size, 1, none⟩) (by rw [← HBB.out]; exact Nat.lt_succ_self _)).trans (by simp [go_sem])
            have hbd : (sgn false (natOf ws)).natAbs < 4294967296 ^ n := by
              rw [sgn_abs]
              have hl : ws.length = n := by have := HR6.out.1; simpa [u32s] using this
              have := natOf_lt HW.out
              rwa [hl] at this
            have HNB : Hid (n' ≤ 1000) := by have := words_bd hz hbd; unfold Hid; omega
            clear hz hE2 hnw hbd
            go_wp2_with fail
            refine bodyPost_ret (v := .tuple #[.agg #[.bool b', .slice A' n' c'], .int .i64 0]) (by simp [results, Tryz.results94, go_sem, g0, g1]) rfl ?_
            rw [HR.out]
            refine ⟨_, _, _, _, rfl, ((HZ2.out.put (p := ⟨w.heap.size, 0, none⟩) (by rw [← HBB.out]; exact Nat.lt_succ_self _) _).put (p := ⟨w.heap.size, 1, none⟩) (by rw [← HBB.out]; exact Nat.lt_succ_self _) _).base (by rw [← HBB.out]; omega), HNB.out, Below.setCell (Below.setCell (Ext.new HE3.out) (p := ⟨w.heap.size, 0, none⟩) (Nat.le_refl _) _) (p := ⟨w.heap.size, 1, none⟩) (Nat.le_refl _) _⟩

end Go.Proofs.YtnofbjcikfofgaaGreat
