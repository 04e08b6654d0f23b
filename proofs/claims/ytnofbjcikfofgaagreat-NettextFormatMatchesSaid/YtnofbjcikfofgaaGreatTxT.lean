/- Contracts of token.Next, Expect, ExpectWord, ExpectInt, Peek. Printed by gen_txt.py. -/
import Derived.Test.YtnofbjcikfofgaaGreatTxF
import Derived.Test.YtnofbjcikfofgaaGreatVarT
namespace Go.Proofs.YtnofbjcikfofgaaGreat
open Go.RowKit
/-- A token's cells in memory, in words from B on. -/
def TokIs (w : World) (B : Nat) (t : Tok) (s : Bool) (A : Option Addr) (n c : Nat) (s' : Bool) (A' : Option Addr) (n' c' : Nat) : Prop := QCan w B s A n c s' A' n' c' t.num ∧ n ≤ 1000 ∧ n' ≤ 1000
theorem TokIs.ext {w w' : World} {B : Nat} {t : Tok} {s : Bool} {A : Option Addr} {n c : Nat} {s' : Bool} {A' : Option Addr} {n' c' : Nat} (h : TokIs w B t s A n c s' A' n' c') (hb : Ext w w') : TokIs w' B t s A n c s' A' n' c' := ⟨h.1.ext hb, h.2⟩
/-- A token, an offset, an error. -/
def RetTok (w : World) (x : NX) (e : Ending) (w' : World) : Prop := ∃ s A n c s' A' n' c', e = .returned (.tuple #[.agg #[.int .u8 x.t.kind, .string (bs x.t.text), .bool s, .slice A n c, .bool s', .slice A' n' c'], .int .i64 x.nx, .int .i64 x.e]) ∧ TokIs w' w.heap.size x.t s A n c s' A' n' c' ∧ Ext w w'
theorem tok_put {w wk w' : World} {g B0 : Nat} {vs : List Value} {t : Tok} {s : Bool} {A : Option Addr} {n c : Nat} {s' : Bool} {A' : Option Addr} {n' c' : Nat} (hp : PutVs g 0 vs wk w') (hE : Ext w wk) (hg : w.heap.size ≤ g) (hB : g < B0) (hq : TokIs wk B0 t s A n c s' A' n' c') :
    TokIs w' w.heap.size t s A n c s' A' n' c' ∧ Ext w w' := by
  have ha := hq.1.away g
  refine ⟨⟨⟨(hq.1.touch hp.touch ⟨fun h ad e => ?_, fun h ad e => ?_⟩).1.base (by omega), (hq.1.touch hp.touch ⟨fun h ad e => ?_, fun h ad e => ?_⟩).2.base (by omega)⟩, hq.2⟩, hp.touch.ext w hE hg⟩
  · have := ha.1 h ad e; omega
  · have := ha.2 h ad e; omega
  · have := ha.1 h ad e; omega
  · have := ha.2 h ad e; omega
theorem tok_zero (w : World) (B : Nat) (k : Int) (l : Bs) : TokIs w B ⟨k, l, 0⟩ false none 0 0 false none 0 0 := ⟨⟨zcan_zero _ _, zcan_zero _ _⟩, by omega, by omega⟩
theorem endC_le {p : UInt8 → Bool} {l : Bs} {k : Nat} (h : k ≤ l.length) : k ≤ endC p l k ∧ endC p l k ≤ l.length := by
  unfold endC
  have := (List.takeWhile_sublist (l := l.drop k) p).length_le
  rw [List.length_drop] at this
  omega
theorem run_ext (s : ByteArray) (a : Nat) : s.extract a (endC isRun s.data.toList a) = bs ((s.data.toList.drop a).takeWhile isRun) := by
  rw [ext_bs]
  congr 1
  unfold endC
  rw [show a + ((s.data.toList.drop a).takeWhile isRun).length - a = ((s.data.toList.drop a).takeWhile isRun).length by omega]
  exact (List.prefix_iff_eq_take.1 (List.takeWhile_prefix isRun)).symm

set_option maxRecDepth 100000 in
set_option maxHeartbeats 16000000 in
theorem next_tok (s : ByteArray) (k : Int) (w : World) (hs : s.size ≤ maxLen) :
    Calls Tryz.prog 46 #[.string s, .int .i64 k] w (RetTok w (nextT s.data.toList k)) := by
  have hl := len_list s
  obtain ⟨X, hX⟩ : ∃ X, nextT s.data.toList k = X := ⟨_, rfl⟩
  rw [hX]
  have HX : Hid (X = if 65536 < s.size then nxE 5 else if k < 0 ∨ (s.size : Int) < k then nxE 1 else nextC s.data.toList (endC isSep s.data.toList k.toNat)) := by unfold Hid; rw [← hX]; unfold nextT; rw [hl]
  have HL := Lib.hid hl
  have HS := Lib.hid hs
  clear hX hl
  unfold maxLen at hs
  by_cases hlong : 65536 < s.size
  · have hb : decide ((65536 : Int) < (s.size : Int)) = true := decide_eq_true (by omega)
    have hb2 : decide (65536 < s.size) = true := decide_eq_true hlong
    have HR : Hid (X = nxE 5) := by unfold Hid; rw [HX.out, if_pos hlong]
    clear hlong
    go_enter Tryz.func46, Tryz.ntmps46
    go_wp2_with fail
    refine bodyPost_ret (v := .tuple #[.agg #[.int .u8 0, .string ⟨#[]⟩, .bool false, .slice none 0 0, .bool false, .slice none 0 0], .int .i64 0, .int .i64 5]) (by simp [results, Tryz.results46, go_sem]) rfl ?_
    rw [HR.out]
    exact ⟨_, _, _, _, _, _, _, _, rfl, tok_zero _ _ 0 [], Ext.al Ext.rfl' _⟩
  · have hb : decide ((65536 : Int) < (s.size : Int)) = false := decide_eq_false (by omega)
    have hb2 : decide (65536 < s.size) = false := decide_eq_false hlong
    have HX2 : Hid (X = if k < 0 ∨ (s.size : Int) < k then nxE 1 else nextC s.data.toList (endC isSep s.data.toList k.toNat)) := by unfold Hid; rw [HX.out, if_neg hlong]
    clear HX
    by_cases hk0 : k < 0
    · have hkb : decide (k < 0) = true := decide_eq_true hk0
      have HR : Hid (X = nxE 1) := by unfold Hid; rw [HX2.out, if_pos (.inl hk0)]
      go_enter Tryz.func46, Tryz.ntmps46
      go_wp2_with fail
      refine bodyPost_ret (v := .tuple #[.agg #[.int .u8 0, .string ⟨#[]⟩, .bool false, .slice none 0 0, .bool false, .slice none 0 0], .int .i64 0, .int .i64 1]) (by simp [results, Tryz.results46, go_sem]) rfl ?_
      rw [HR.out]
      exact ⟨_, _, _, _, _, _, _, _, rfl, tok_zero _ _ 0 [], Ext.al Ext.rfl' _⟩
    · have hkb : decide (k < 0) = false := decide_eq_false hk0
      by_cases hks : (s.size : Int) < k
      · have hkb2 : decide ((s.size : Int) < k) = true := decide_eq_true hks
        have HR : Hid (X = nxE 1) := by unfold Hid; rw [HX2.out, if_pos (.inr hks)]
        go_enter Tryz.func46, Tryz.ntmps46
        go_wp2_with fail
        refine bodyPost_ret (v := .tuple #[.agg #[.int .u8 0, .string ⟨#[]⟩, .bool false, .slice none 0 0, .bool false, .slice none 0 0], .int .i64 0, .int .i64 1]) (by simp [results, Tryz.results46, go_sem]) rfl ?_
        rw [HR.out]
        exact ⟨_, _, _, _, _, _, _, _, rfl, tok_zero _ _ 0 [], Ext.al Ext.rfl' _⟩
      · have hkb2 : decide ((s.size : Int) < k) = false := decide_eq_false hks
        have HX : Hid (X = nextC s.data.toList (endC isSep s.data.toList k.toNat)) := by unfold Hid; rw [HX2.out, if_neg (by omega)]
        clear HX2
        obtain ⟨kn, rfl⟩ : ∃ kn : Nat, k = (kn : Int) := ⟨k.toNat, by omega⟩
        rw [Int.toNat_natCast] at HX
        have hkn : kn ≤ s.size := by omega
        have hend := endC_le (p := isSep) (l := s.data.toList) (k := kn) (by rw [HL.out]; exact hkn)
        rw [HL.out] at hend
        clear hk0 hks
        go_enter Tryz.func46, Tryz.ntmps46
        go_wp2_with fail
        have hR := RowN.of_blk (World.alloc_heap_new w (.cells #[.int .u8 0, .string ⟨#[]⟩, .bool false, .slice none 0 0, .bool false, .slice none 0 0] 53))
        have hE : Ext w (w.alloc (.cells #[.int .u8 0, .string ⟨#[]⟩, .bool false, .slice none 0 0, .bool false, .slice none 0 0] 53)) := Ext.al Ext.rfl' _
        have hsz : (w.alloc (.cells #[.int .u8 0, .string ⟨#[]⟩, .bool false, .slice none 0 0, .bool false, .slice none 0 0] 53)).heap.size = w.heap.size + 1 := by simp
        generalize (w.alloc (.cells #[.int .u8 0, .string ⟨#[]⟩, .bool false, .slice none 0 0, .bool false, .slice none 0 0] 53)) = w0 at *
        have RN := Lib.hid (show RowN w0 w.heap.size 6 from hR)
        have SZ := Lib.hid hsz
        clear hR hsz
        have Ew0 := Lib.hid hE
        clear hE
        refine (separators_any w0).mono ?_
        rintro e w1 ⟨rfl, hE⟩
        have Ew1 := Lib.hid hE
        clear hE
        go_wp2_with fail
        refine (end_sep_any s kn w1 HS.out hkn).mono ?_
        rintro e w2 ⟨rfl, hE⟩
        have Ew2 := Lib.hid hE
        clear hE
        obtain ⟨a, ha⟩ : ∃ a, endC isSep s.data.toList kn = a := ⟨_, rfl⟩
        rw [ha] at HX hend ⊢
        clear ha hkb hkb2 hkn
        obtain ⟨-, hend⟩ := hend
        by_cases hal : a = s.size
        · have hab : ((a : Int) == (s.size : Int)) = true := by simp; omega
          have hab2 : (a == s.size) = true := by simp; omega
          have HR : Hid (X = nxE 8) := by unfold Hid; rw [HX.out]; unfold nextC; rw [if_pos (by rw [HL.out]; exact hal)]
          clear hal
          have HT := Lib.hid ((RN.out.ext (Ext.trans Ew1.out Ew2.out)).there (o := 0) (k := 6) (by omega))
          have HE := Lib.hid (Ext.trans Ew0.out (Ext.trans Ew1.out Ew2.out))
          have HTK := Lib.hid (tok_zero w2 (w.heap.size + 1) 0 [])
          go_wp2_with (
            refine wpList_storeV rfl 53 _ _ rfl w.heap.size 0 [.int .u8 0, .string ⟨#[]⟩, .bool false, .slice none 0 0, .bool false, .slice none 0 0] rfl rfl HT.out (by kernel_rfl) rfl ?_
            intro w' hp
            have HP := Lib.hid hp
            clear hp)
          have c0 := HP.out.here 0 _ rfl
          have c1 := HP.out.here 1 _ rfl
          have c2 := HP.out.here 2 _ rfl
          have c3 := HP.out.here 3 _ rfl
          have c4 := HP.out.here 4 _ rfl
          have c5 := HP.out.here 5 _ rfl
          simp only [Nat.zero_add] at c0 c1 c2 c3 c4 c5
          obtain ⟨hf1, hf2⟩ := tok_put HP.out HE.out (Nat.le_refl _) (B0 := w.heap.size + 1) (Nat.lt_succ_self _) HTK.out
          refine bodyPost_ret (v := .tuple #[.agg #[.int .u8 0, .string ⟨#[]⟩, .bool false, .slice none 0 0, .bool false, .slice none 0 0], .int .i64 0, .int .i64 8]) (by simp [results, Tryz.results46, go_sem, c0, c1, c2, c3, c4, c5]) rfl ?_
          rw [HR.out]
          exact ⟨_, _, _, _, _, _, _, _, rfl, hf1, hf2⟩
        · have hab : ((a : Int) == (s.size : Int)) = false := by simp; omega
          have hab2 : (a == s.size) = false := by simp; omega
          have hlt : a < s.size := by omega
          have hz0 : (0 : Int) ≤ (a : Int) := by omega
          have hzn : (a : Int) < (s.size : Int) := by omega
          have hget : s.data.toList.getD a 0 = s[a] := by rw [List.getD_eq_getElem?_getD, List.getElem?_eq_getElem (by rw [HL.out]; exact hlt)]; rfl
          have HX2 : Hid (X = if s[a] = 40 then ⟨tokO, (a : Int) + 1, 0⟩ else if s[a] = 41 then ⟨tokC, (a : Int) + 1, 0⟩ else runT ((s.data.toList.drop a).takeWhile isRun) (endC isRun s.data.toList a)) := by unfold Hid; rw [HX.out]; unfold nextC; rw [if_neg (by rw [HL.out]; exact hal), hget]
          clear HX hget hal
          by_cases h40 : s[a] = 40
          · have eh40 : ((s[a].toNat : Int) == 40) = true := by rw [h40]; rfl
            have eh40' : (s[a].toNat : Int) = 40 := by rw [h40]; rfl
            have HR : Hid (X = ⟨tokO, (a : Int) + 1, 0⟩) := by unfold Hid; rw [HX2.out, if_pos h40]
            clear h40 HX2
            have HT := Lib.hid ((RN.out.ext (Ext.trans Ew1.out Ew2.out)).there (o := 0) (k := 6) (by omega))
            have HE := Lib.hid (Ext.trans Ew0.out (Ext.trans Ew1.out Ew2.out))
            have HTK := Lib.hid (tok_zero w2 (w.heap.size + 1) 1 [])
            go_wp2_with (
              refine wpList_storeV rfl 53 _ _ rfl w.heap.size 0 [.int .u8 1, .string ⟨#[]⟩, .bool false, .slice none 0 0, .bool false, .slice none 0 0] rfl rfl HT.out (by kernel_rfl) rfl ?_
              intro w' hp
              have HP := Lib.hid hp
              clear hp)
            have c0 := HP.out.here 0 _ rfl
            have c1 := HP.out.here 1 _ rfl
            have c2 := HP.out.here 2 _ rfl
            have c3 := HP.out.here 3 _ rfl
            have c4 := HP.out.here 4 _ rfl
            have c5 := HP.out.here 5 _ rfl
            simp only [Nat.zero_add] at c0 c1 c2 c3 c4 c5
            obtain ⟨hf1, hf2⟩ := tok_put HP.out HE.out (Nat.le_refl _) (B0 := w.heap.size + 1) (Nat.lt_succ_self _) HTK.out
            refine bodyPost_ret (v := .tuple #[.agg #[.int .u8 1, .string ⟨#[]⟩, .bool false, .slice none 0 0, .bool false, .slice none 0 0], .int .i64 ((a : Int) + 1), .int .i64 0]) (by simp [results, Tryz.results46, go_sem, c0, c1, c2, c3, c4, c5]) rfl ?_
            rw [HR.out]
            exact ⟨_, _, _, _, _, _, _, _, rfl, hf1, hf2⟩
          · have eh40 : ((s[a].toNat : Int) == 40) = false := by simpa using fun e => h40 (UInt8.toNat_inj.1 (by have e3 : (40 : UInt8).toNat = 40 := rfl; omega))
            by_cases h41 : s[a] = 41
            · have eh41 : ((s[a].toNat : Int) == 41) = true := by rw [h41]; rfl
              have eh41' : (s[a].toNat : Int) = 41 := by rw [h41]; rfl
              have HR : Hid (X = ⟨tokC, (a : Int) + 1, 0⟩) := by unfold Hid; rw [HX2.out, if_neg h40, if_pos h41]
              clear h40 h41 HX2
              have HT := Lib.hid ((RN.out.ext (Ext.trans Ew1.out Ew2.out)).there (o := 0) (k := 6) (by omega))
              have HE := Lib.hid (Ext.trans Ew0.out (Ext.trans Ew1.out Ew2.out))
              have HTK := Lib.hid (tok_zero w2 (w.heap.size + 1) 2 [])
              go_wp2_with (
                refine wpList_storeV rfl 53 _ _ rfl w.heap.size 0 [.int .u8 2, .string ⟨#[]⟩, .bool false, .slice none 0 0, .bool false, .slice none 0 0] rfl rfl HT.out (by kernel_rfl) rfl ?_
                intro w' hp
                have HP := Lib.hid hp
                clear hp)
              have c0 := HP.out.here 0 _ rfl
              have c1 := HP.out.here 1 _ rfl
              have c2 := HP.out.here 2 _ rfl
              have c3 := HP.out.here 3 _ rfl
              have c4 := HP.out.here 4 _ rfl
              have c5 := HP.out.here 5 _ rfl
              simp only [Nat.zero_add] at c0 c1 c2 c3 c4 c5
              obtain ⟨hf1, hf2⟩ := tok_put HP.out HE.out (Nat.le_refl _) (B0 := w.heap.size + 1) (Nat.lt_succ_self _) HTK.out
              refine bodyPost_ret (v := .tuple #[.agg #[.int .u8 2, .string ⟨#[]⟩, .bool false, .slice none 0 0, .bool false, .slice none 0 0], .int .i64 ((a : Int) + 1), .int .i64 0]) (by simp [results, Tryz.results46, go_sem, c0, c1, c2, c3, c4, c5]) rfl ?_
              rw [HR.out]
              exact ⟨_, _, _, _, _, _, _, _, rfl, hf1, hf2⟩
            · have eh41 : ((s[a].toNat : Int) == 41) = false := by simpa using fun e => h41 (UInt8.toNat_inj.1 (by have e3 : (41 : UInt8).toNat = 41 := rfl; omega))
              have HX : Hid (X = runT ((s.data.toList.drop a).takeWhile isRun) (endC isRun s.data.toList a)) := by unfold Hid; rw [HX2.out, if_neg h40, if_neg h41]
              clear HX2 h40 h41
              go_wp2_with fail
              refine (runs_any w2).mono ?_
              rintro e w3 ⟨rfl, hE⟩
              have Ew3 := Lib.hid hE
              clear hE
              go_wp2_with fail
              have hend2 := endC_le (p := isRun) (l := s.data.toList) (k := a) (by rw [HL.out]; omega)
              rw [HL.out] at hend2
              have hrun := run_ext s a
              refine (end_run_any s a w3 HS.out (by omega)).mono ?_
              rintro e w4 ⟨rfl, hE⟩
              have Ew4 := Lib.hid hE
              clear hE
              obtain ⟨b, hb0⟩ : ∃ b, endC isRun s.data.toList a = b := ⟨_, rfl⟩
              rw [hb0] at HX hend2 hrun ⊢
              clear hb0
              obtain ⟨R, hR⟩ : ∃ R, (s.data.toList.drop a).takeWhile isRun = R := ⟨_, rfl⟩
              rw [hR] at HX hrun
              clear hR
              obtain ⟨hab1, hbs⟩ := hend2
              have hRs : R.length ≤ s.size := by
                have := congrArg ByteArray.size hrun
                rw [bs_size, ByteArray.size_extract] at this
                omega
              have HRL : Hid (R.length ≤ maxLen) := Nat.le_trans hRs HS.out
              have HRUN := Lib.hid hrun
              clear hrun hRs
              have hzb : (a : Int) ≤ (b : Int) := by omega
              have hzb2 : (b : Int) ≤ (s.size : Int) := by omega
              go_wp2_with fail
              rw [HRUN.out]
              refine (letters_any w4).mono ?_
              rintro e w5 ⟨rfl, hE⟩
              have Ew5 := Lib.hid hE
              clear hE
              go_wp2_with fail
              refine (all_low_any (bs R) w5 (by rw [bs_size]; exact HRL.out)).mono ?_
              rintro e w6 ⟨rfl, hE⟩
              have Ew6 := Lib.hid hE
              clear hE
              rw [bs_list]
              obtain ⟨bl, hbl⟩ : ∃ v, allC isLow R = v := ⟨_, rfl⟩
              rw [hbl]
              have HBL := Lib.hid hbl
              clear hbl
              cases bl
              rotate_left
              · have HR : Hid (X = ⟨tokW R, b, 0⟩) := by unfold Hid; rw [HX.out]; unfold runT; rw [if_pos HBL.out]
                have HT := Lib.hid ((RN.out.ext (Ext.trans Ew1.out (Ext.trans Ew2.out (Ext.trans Ew3.out (Ext.trans Ew4.out (Ext.trans Ew5.out Ew6.out)))))).there (o := 0) (k := 6) (by omega))
                have HE := Lib.hid (Ext.trans Ew0.out (Ext.trans Ew1.out (Ext.trans Ew2.out (Ext.trans Ew3.out (Ext.trans Ew4.out (Ext.trans Ew5.out Ew6.out))))))
                have HTK := Lib.hid (tok_zero w6 (w.heap.size + 1) 3 R)
                go_wp2_with (
                  refine wpList_storeV rfl 53 _ _ rfl w.heap.size 0 [.int .u8 3, .string (bs R), .bool false, .slice none 0 0, .bool false, .slice none 0 0] rfl rfl HT.out (by kernel_rfl) rfl ?_
                  intro w' hp
                  have HP := Lib.hid hp
                  clear hp)
                have c0 := HP.out.here 0 _ rfl
                have c1 := HP.out.here 1 _ rfl
                have c2 := HP.out.here 2 _ rfl
                have c3 := HP.out.here 3 _ rfl
                have c4 := HP.out.here 4 _ rfl
                have c5 := HP.out.here 5 _ rfl
                simp only [Nat.zero_add] at c0 c1 c2 c3 c4 c5
                obtain ⟨hf1, hf2⟩ := tok_put HP.out HE.out (Nat.le_refl _) (B0 := w.heap.size + 1) (Nat.lt_succ_self _) HTK.out
                refine bodyPost_ret (v := .tuple #[.agg #[.int .u8 3, .string (bs R), .bool false, .slice none 0 0, .bool false, .slice none 0 0], .int .i64 (b : Int), .int .i64 0]) (by simp [results, Tryz.results46, go_sem, c0, c1, c2, c3, c4, c5]) rfl ?_
                rw [HR.out]
                exact ⟨_, _, _, _, _, _, _, _, rfl, hf1, hf2⟩
              · have HX2 : Hid (X = if (!allC isNumr R) = true then nxE 3 else if qE R ≠ 0 then nxE (qE R) else ⟨tokN (qV R), b, 0⟩) := by unfold Hid; rw [HX.out]; unfold runT; rw [if_neg (by rw [HBL.out]; simp)]
                clear HX HBL
                go_wp2_with fail
                refine (numerals_any w6).mono ?_
                rintro e w7 ⟨rfl, hE⟩
                have Ew7 := Lib.hid hE
                clear hE
                go_wp2_with fail
                refine (all_num_any (bs R) w7 (by rw [bs_size]; exact HRL.out)).mono ?_
                rintro e w8 ⟨rfl, hE⟩
                have Ew8 := Lib.hid hE
                clear hE
                rw [bs_list]
                obtain ⟨bl, hbl⟩ : ∃ v, allC isNumr R = v := ⟨_, rfl⟩
                rw [hbl] at HX2 ⊢
                clear hbl
                cases bl
                · have HR : Hid (X = nxE 3) := by unfold Hid; rw [HX2.out]; simp
                  have HT := Lib.hid ((RN.out.ext (Ext.trans Ew1.out (Ext.trans Ew2.out (Ext.trans Ew3.out (Ext.trans Ew4.out (Ext.trans Ew5.out (Ext.trans Ew6.out (Ext.trans Ew7.out Ew8.out)))))))).there (o := 0) (k := 6) (by omega))
                  have HE := Lib.hid (Ext.trans Ew0.out (Ext.trans Ew1.out (Ext.trans Ew2.out (Ext.trans Ew3.out (Ext.trans Ew4.out (Ext.trans Ew5.out (Ext.trans Ew6.out (Ext.trans Ew7.out Ew8.out))))))))
                  have HTK := Lib.hid (tok_zero w8 (w.heap.size + 1) 0 [])
                  go_wp2_with (
                    refine wpList_storeV rfl 53 _ _ rfl w.heap.size 0 [.int .u8 0, .string ⟨#[]⟩, .bool false, .slice none 0 0, .bool false, .slice none 0 0] rfl rfl HT.out (by kernel_rfl) rfl ?_
                    intro w' hp
                    have HP := Lib.hid hp
                    clear hp)
                  have c0 := HP.out.here 0 _ rfl
                  have c1 := HP.out.here 1 _ rfl
                  have c2 := HP.out.here 2 _ rfl
                  have c3 := HP.out.here 3 _ rfl
                  have c4 := HP.out.here 4 _ rfl
                  have c5 := HP.out.here 5 _ rfl
                  simp only [Nat.zero_add] at c0 c1 c2 c3 c4 c5
                  obtain ⟨hf1, hf2⟩ := tok_put HP.out HE.out (Nat.le_refl _) (B0 := w.heap.size + 1) (Nat.lt_succ_self _) HTK.out
                  refine bodyPost_ret (v := .tuple #[.agg #[.int .u8 0, .string ⟨#[]⟩, .bool false, .slice none 0 0, .bool false, .slice none 0 0], .int .i64 0, .int .i64 3]) (by simp [results, Tryz.results46, go_sem, c0, c1, c2, c3, c4, c5]) rfl ?_
                  rw [HR.out]
                  exact ⟨_, _, _, _, _, _, _, _, rfl, hf1, hf2⟩
                · have HX : Hid (X = if qE R ≠ 0 then nxE (qE R) else ⟨tokN (qV R), b, 0⟩) := by unfold Hid; rw [HX2.out, if_neg (by simp)]
                  clear HX2
                  go_wp2_with fail
                  refine (fparse_any (bs R) w8 (by rw [bs_size]; exact HRL.out)).mono ?_
                  rintro e w9 ⟨su, Au, nu, cu, tu, Bu, mu, du, rfl, hQ, hN1, hN2, hE⟩
                  have Ew9 := Lib.hid hE
                  clear hE
                  rw [bs_list] at hQ
                  have Qu := Lib.hid hQ
                  have Nu := Lib.hid (And.intro hN1 hN2)
                  clear hQ hN1 hN2
                  rw [bs_list]
                  obtain ⟨er, her⟩ : ∃ v, qE R = v := ⟨_, rfl⟩
                  obtain ⟨q, hq⟩ : ∃ v, qV R = v := ⟨_, rfl⟩
                  rw [her] at HX ⊢
                  rw [hq] at HX Qu
                  clear her hq
                  have EB := Lib.hid (show Ext w9 (w9.alloc (.cells #[.bool su, .slice Au nu cu, .bool tu, .slice Bu mu du] 51)) from Ext.al Ext.rfl' _)
                  obtain ⟨⟨y0, y1, y2, y3⟩, -, yl⟩ := Cell4.new w9 _ rfl (.bool su) (.slice Au nu cu) (.bool tu) (.slice Bu mu du) 51
                  by_cases h0 : er = 0
                  rotate_left
                  · have hb : (er != 0) = true := by simp [h0]
                    have HR : Hid (X = nxE er) := by unfold Hid; rw [HX.out, if_pos h0]
                    clear h0 HX
                    have HT := Lib.hid ((RN.out.ext (Ext.trans Ew1.out (Ext.trans Ew2.out (Ext.trans Ew3.out (Ext.trans Ew4.out (Ext.trans Ew5.out (Ext.trans Ew6.out (Ext.trans Ew7.out (Ext.trans Ew8.out (Ext.trans Ew9.out EB.out)))))))))).there (o := 0) (k := 6) (by omega))
                    have HE := Lib.hid (Ext.trans Ew0.out (Ext.trans Ew1.out (Ext.trans Ew2.out (Ext.trans Ew3.out (Ext.trans Ew4.out (Ext.trans Ew5.out (Ext.trans Ew6.out (Ext.trans Ew7.out (Ext.trans Ew8.out (Ext.trans Ew9.out EB.out))))))))))
                    have HTK := Lib.hid (tok_zero (w9.alloc (.cells #[.bool su, .slice Au nu cu, .bool tu, .slice Bu mu du] 51)) (w.heap.size + 1) 0 [])
                    go_wp2_with (
                      refine wpList_storeV rfl 53 _ _ rfl w.heap.size 0 [.int .u8 0, .string ⟨#[]⟩, .bool false, .slice none 0 0, .bool false, .slice none 0 0] rfl rfl HT.out (by kernel_rfl) rfl ?_
                      intro w' hp
                      have HP := Lib.hid hp
                      clear hp)
                    have c0 := HP.out.here 0 _ rfl
                    have c1 := HP.out.here 1 _ rfl
                    have c2 := HP.out.here 2 _ rfl
                    have c3 := HP.out.here 3 _ rfl
                    have c4 := HP.out.here 4 _ rfl
                    have c5 := HP.out.here 5 _ rfl
                    simp only [Nat.zero_add] at c0 c1 c2 c3 c4 c5
                    obtain ⟨hf1, hf2⟩ := tok_put HP.out HE.out (Nat.le_refl _) (B0 := w.heap.size + 1) (Nat.lt_succ_self _) HTK.out
                    refine bodyPost_ret (v := .tuple #[.agg #[.int .u8 0, .string ⟨#[]⟩, .bool false, .slice none 0 0, .bool false, .slice none 0 0], .int .i64 0, .int .i64 er]) (by simp [results, Tryz.results46, go_sem, c0, c1, c2, c3, c4, c5]) rfl ?_
                    rw [HR.out]
                    exact ⟨_, _, _, _, _, _, _, _, rfl, hf1, hf2⟩
                  · have HR : Hid (X = ⟨tokN q, b, 0⟩) := by unfold Hid; rw [HX.out, if_neg (by simp [h0])]
                    subst h0
                    clear HX
                    have HT := Lib.hid ((RN.out.ext (Ext.trans Ew1.out (Ext.trans Ew2.out (Ext.trans Ew3.out (Ext.trans Ew4.out (Ext.trans Ew5.out (Ext.trans Ew6.out (Ext.trans Ew7.out (Ext.trans Ew8.out (Ext.trans Ew9.out EB.out)))))))))).there (o := 0) (k := 6) (by omega))
                    have HE := Lib.hid (Ext.trans Ew0.out (Ext.trans Ew1.out (Ext.trans Ew2.out (Ext.trans Ew3.out (Ext.trans Ew4.out (Ext.trans Ew5.out (Ext.trans Ew6.out (Ext.trans Ew7.out (Ext.trans Ew8.out (Ext.trans Ew9.out EB.out))))))))))
                    have HTK := Lib.hid (show TokIs (w9.alloc (.cells #[.bool su, .slice Au nu cu, .bool tu, .slice Bu mu du] 51)) (w.heap.size + 1) (tokN q) su Au nu cu tu Bu mu du from ⟨⟨(Qu.out.ext EB.out).1.base (by rw [← SZ.out]; exact (Nat.le_trans Ew1.out.size (Nat.le_trans Ew2.out.size (Nat.le_trans Ew3.out.size (Nat.le_trans Ew4.out.size (Nat.le_trans Ew5.out.size (Nat.le_trans Ew6.out.size (Nat.le_trans Ew7.out.size Ew8.out.size)))))))), (Qu.out.ext EB.out).2.base (by rw [← SZ.out]; exact (Nat.le_trans Ew1.out.size (Nat.le_trans Ew2.out.size (Nat.le_trans Ew3.out.size (Nat.le_trans Ew4.out.size (Nat.le_trans Ew5.out.size (Nat.le_trans Ew6.out.size (Nat.le_trans Ew7.out.size Ew8.out.size))))))))⟩, Nu.out⟩)
                    go_wp2_with (
                      refine wpList_storeV rfl 53 _ _ rfl w.heap.size 0 [.int .u8 4, .string ⟨#[]⟩, .bool su, .slice Au nu cu, .bool tu, .slice Bu mu du] rfl rfl HT.out (by kernel_rfl) rfl ?_
                      intro w' hp
                      have HP := Lib.hid hp
                      clear hp)
                    have c0 := HP.out.here 0 _ rfl
                    have c1 := HP.out.here 1 _ rfl
                    have c2 := HP.out.here 2 _ rfl
                    have c3 := HP.out.here 3 _ rfl
                    have c4 := HP.out.here 4 _ rfl
                    have c5 := HP.out.here 5 _ rfl
                    simp only [Nat.zero_add] at c0 c1 c2 c3 c4 c5
                    obtain ⟨hf1, hf2⟩ := tok_put HP.out HE.out (Nat.le_refl _) (B0 := w.heap.size + 1) (Nat.lt_succ_self _) HTK.out
                    refine bodyPost_ret (v := .tuple #[.agg #[.int .u8 4, .string ⟨#[]⟩, .bool su, .slice Au nu cu, .bool tu, .slice Bu mu du], .int .i64 (b : Int), .int .i64 0]) (by simp [results, Tryz.results46, go_sem, c0, c1, c2, c3, c4, c5]) rfl ?_
                    rw [HR.out]
                    exact ⟨_, _, _, _, _, _, _, _, rfl, hf1, hf2⟩

end Go.Proofs.YtnofbjcikfofgaaGreat
