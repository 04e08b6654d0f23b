/- Contracts of nettext's list, kind, line. Printed by gen_txn.py. -/
import Derived.Test.YtnofbjcikfofgaaGreatTxL
namespace Go.Proofs.YtnofbjcikfofgaaGreat
open Go.RowKit
theorem psIs_succ (l : Bs) : ∀ (k : Nat) (p : PS), psIs l (k + 1) p = psI l (psIs l k p)
  | 0, _ => rfl
  | k + 1, p => psIs_succ l k (psI l p)
theorem psVs_get (l : Bs) : ∀ (n k : Nat) (p : PS), k < n → (psVs l n p).getD k 0 = psV l (psIs l k p)
  | 0, _, _, h => by omega
  | n + 1, 0, p, _ => rfl
  | n + 1, k + 1, p, h => by
    have := psVs_get l n k (psI l p) (by omega)
    simpa [psVs, psIs] using this
theorem info_i64 : (Tryz.prog.info? 2).map (fun i => (i.zero, i.size, i.bytes)) = some (some (.int .i64 0), 1, 8) := by kernel_rfl
set_option maxRecDepth 100000 in
set_option maxHeartbeats 8000000 in
theorem nlist_any (g : Nat) (s : ByteArray) (p : PS) (n : Nat) (w : World) (h : PAt w g s p) (hs : s.size ≤ maxLen) (hn : n ≤ 1000) :
    Calls Tryz.prog 47 #[.pointer (some ⟨g, 0, none⟩), .int .i64 (n : Int), .func (.func 27) #[] #[]] w fun e w' => (∃ r, e = .returned (.slice (some ⟨r, 0, none⟩) n n) ∧ w.heap.size ≤ r ∧ RowN w' r n ∧ ∀ i, i < n → w'.cell? ⟨r, i, none⟩ = some (.int .i64 ((psVs s.data.toList n p).getD i 0))) ∧ PAt w' g s (psIs s.data.toList n p) ∧ Mv g w w' := by
  have H := Lib.hid h
  have HS := Lib.hid hs
  have hgl := h.blk.lt
  clear h hs
  go_enter Tryz.func47, Tryz.ntmps47
  go_wp2_with (
    refine wpList_makeV rfl 74 2 _ _ rfl (.int .i64 0) 1 8 Tryz.underlying74 info_i64 (n : Int) n rfl rfl rfl (by omega) (by omega) ?_
    intro wM hO
    have hrn : RowN wM w.heap.size n := by rw [← hO, Nat.mul_one]; exact rowN_made w n _ _
    have hE : Ext w wM := by rw [← hO]; exact Ext.al Ext.rfl' _
    clear hO
    have HRN := Lib.hid hrn
    have HE := Lib.hid hE
    clear hrn hE)
  obtain ⟨r, hr⟩ : ∃ r, w.heap.size = r := ⟨_, rfl⟩
  rw [hr] at HRN ⊢
  have HRR := Lib.hid hr
  rw [hr] at hgl
  clear hr
  go_loopw [8, 13] (fun _ i wr => ∃ k : Nat, k ≤ n ∧ i = .int .i64 (k : Int) ∧ Hid (PAt wr g s (psIs s.data.toList k p)) ∧ Hid (RowN wr r n) ∧ Hid (∀ j, j < k → wr.cell? ⟨r, j, none⟩ = some (.int .i64 ((psVs s.data.toList n p).getD j 0))) ∧ Hid (Mv g w wr)) (fun _ i _ => n - (intOf i).toNat)
  case atStart => exact ⟨0, by omega, rfl, H.out.ext HE.out, HRN, fun j hj => absurd hj (by omega), Mv.of HE.out⟩
  case round =>
    obtain ⟨k, hk, rfl, HP, HR, HC, HM⟩ := hrel
    by_cases hlt : k < n
    · have hbv : decide ((k : Int) < (n : Int)) = true := by simp; omega
      have hbv2 : decide (k < n) = true := by simp; omega
      have hz0 : (0 : Int) ≤ (k : Int) := by omega
      have hzn : (k : Int) < (n : Int) := by omega
      have HV := Lib.hid (psVs_get s.data.toList n k p hlt)
      have HSU := Lib.hid (psIs_succ s.data.toList k p)
      go_wp2_with fail
      refine (int_any g s _ wr HP.out HS.out).mono ?_
      rintro e w2 ⟨rfl, hp2, hm2⟩
      rw [← HV.out]
      obtain ⟨v, hv⟩ : ∃ v, (psVs s.data.toList n p).getD k 0 = v := ⟨_, rfl⟩
      rw [hv]
      have HVV := Lib.hid hv
      have HR2 := Lib.hid (HR.out.mv hm2 (by omega))
      have HC2 : Hid (∀ j, j < k → w2.cell? ⟨r, j, none⟩ = some (.int .i64 ((psVs s.data.toList n p).getD j 0))) := fun j hj => hm2.cell (HC.out j hj) (by simp; omega)
      have HP2 := Lib.hid hp2
      have HM2 := Lib.hid (Mv.trans HM.out hm2)
      obtain ⟨u, hu⟩ := HR2.out.2.1 k hlt
      have hf := HR2.out.2.2 k
      clear hv hp2 hm2 HR HC HP HM
      go_wp2_with fail
      go_roundw
      case rel =>
        refine ⟨k + 1, by omega, by go_num, ?_, ?_, fun j hj => ?_, ?_⟩
        · unfold Hid; rw [HSU.out]; exact HP2.out.touch ((Touch.refl r w2).set k (.int .i64 v)) (by omega)
        · exact HR2.out.putVs (off := k) (vs := [.int .i64 v]) (PutVs.snoc (PutVs.nil r k w2) rfl ⟨u, hu⟩ _)
        · by_cases e : j = k
          · subst e
            rw [HVV.out]
            exact World.cell?_setCell_same' _ _ _ (by rw [hu]; rfl)
          · rw [World.cell?_setCell_other _ _ _ _ (by intro h; injection h with _ h2; exact e h2.symm)]
            exact HC2.out j (by omega)
        · exact Mv.touch HM2.out ((Touch.refl r w2).set k (.int .i64 v)) (by rw [HRR.out]; exact Nat.le_refl _)
      case measure => simp [intOf]; omega
    · obtain rfl : k = n := by omega
      have hbv : decide ((k : Int) < (k : Int)) = false := by simp
      have hbv2 : decide (k < k) = false := by simp
      go_wp2_with fail
      go_ret
      exact ⟨⟨r, rfl, by rw [HRR.out]; exact Nat.le_refl _, HR.out, HC.out⟩, HP.out, HM.out⟩

def kindN (t : Bs) : Int := if t = [112, 108, 97, 110] then 1 else if t = [108, 111, 115, 115] then 2 else if t = [116, 114, 105, 112] then 3 else 0
def psK (l : Bs) (p : PS) : PS := if (psE l p 3).e ≠ 0 then psE l p 3 else if kindN (psT l p 3).text = 0 then ⟨(psE l p 3).k, 3⟩ else psE l p 3
def psKV (l : Bs) (p : PS) : Int := if (psE l p 3).e ≠ 0 then 0 else kindN (psT l p 3).text
def lineP (l : Bs) (p : PS) : PS := psE l (psIs l 4 (psW l (psE l p 1) [108, 105, 110, 101])) 2
def lineV (l : Bs) (p : PS) : List Int := psVs l 4 (psW l (psE l p 1) [108, 105, 110, 101])
theorem PAt.set2 {w : World} {g : Nat} {s : ByteArray} {p : PS} (h : PAt w g s p) (e : Int) : PAt (w.setCell ⟨g, 2, none⟩ (.int .i64 e)) g s ⟨p.k, e⟩ := h.blk.put 2 (.int .i64 e)

set_option maxRecDepth 100000 in
set_option maxHeartbeats 8000000 in
theorem nkind_any (g : Nat) (s : ByteArray) (p : PS) (w : World) (h : PAt w g s p) (hs : s.size ≤ maxLen) :
    Calls Tryz.prog 54 #[.pointer (some ⟨g, 0, none⟩)] w fun e w' => e = .returned (.int .u8 (psKV s.data.toList p)) ∧ PAt w' g s (psK s.data.toList p) ∧ Mv g w w' := by
  obtain ⟨P, hP⟩ : ∃ P, psK s.data.toList p = P := ⟨_, rfl⟩
  obtain ⟨V, hV⟩ : ∃ V, psKV s.data.toList p = V := ⟨_, rfl⟩
  rw [hP, hV]
  have HK : Hid (P = if (psE s.data.toList p 3).e ≠ 0 then psE s.data.toList p 3 else if kindN (psT s.data.toList p 3).text = 0 then ⟨(psE s.data.toList p 3).k, 3⟩ else psE s.data.toList p 3) := hP.symm
  have HV : Hid (V = if (psE s.data.toList p 3).e ≠ 0 then 0 else kindN (psT s.data.toList p 3).text) := hV.symm
  clear hP hV
  go_enter Tryz.func54, Tryz.ntmps54
  go_wp2_with fail
  refine (nexpect_any g s p 3 w h hs).mono ?_
  rintro e w1 ⟨⟨su, Au, nu, cu, tu, Bu, mu, du, rfl⟩, hp1, hm1⟩
  clear h hs
  generalize psE s.data.toList p 3 = Y at *
  generalize psT s.data.toList p 3 = X at *
  obtain ⟨xk, xt, xq⟩ := X
  obtain ⟨yk, ye⟩ := Y
  simp only at HK HV ⊢
  have hE : Ext w1 (w1.alloc (.cells #[.int .u8 xk, .string (bs xt), .bool su, .slice Au nu cu, .bool tu, .slice Bu mu du] 53)) := Ext.al Ext.rfl' _
  have HP2 := Lib.hid (hp1.ext hE)
  have HM2 := Lib.hid (Mv.trans hm1 (Mv.of hE))
  obtain ⟨c0, c1, c2, c3, c4, c5, cl⟩ := Cell6.new w1 (.int .u8 xk) (.string (bs xt)) (.bool su) (.slice Au nu cu) (.bool tu) (.slice Bu mu du) 53
  obtain ⟨⟨d0, d1, d2⟩, f1, f2, dl⟩ := HP2.out.cells
  simp only at d1 d2
  clear hE hp1 hm1
  by_cases h0 : ye = 0
  rotate_left
  · have hb : (ye != 0) = true := by simp [h0]
    have HR : Hid (P = ⟨yk, ye⟩ ∧ V = 0) := by unfold Hid; rw [HK.out, HV.out, if_pos h0, if_pos h0]; exact ⟨rfl, rfl⟩
    clear h0
    go_wp2_with fail
    go_ret
    rw [HR.out.1, HR.out.2]
    exact ⟨rfl, HP2.out, HM2.out⟩
  · subst h0
    have HKK : Hid (P = if kindN xt = 0 then ⟨yk, 3⟩ else ⟨yk, 0⟩) := by unfold Hid; rw [HK.out, if_neg (by simp)]
    have HVV : Hid (V = kindN xt) := by unfold Hid; rw [HV.out, if_neg (by simp)]
    clear HK HV
    have HTL : Hid ((bs xt).toList = xt) := by unfold Hid; rw [ByteArray.toList_eq, bs_list]
    by_cases h1 : xt = [112, 108, 97, 110]
    · have e1 : ((bs xt).toList == [112, 108, 97, 110]) = true := by rw [HTL.out]; simp [h1]
      have e1' : (bs xt).toList = [112, 108, 97, 110] := by rw [HTL.out]; exact h1
      have HR : Hid (P = ⟨yk, 0⟩ ∧ V = 1) := by
        have hk : kindN xt = 1 := by rw [h1]; rfl
        unfold Hid
        rw [HKK.out, HVV.out, hk]
        exact ⟨by simp, rfl⟩
      clear h1
      go_wp2_with fail
      go_ret
      rw [HR.out.1, HR.out.2]
      exact ⟨rfl, HP2.out, HM2.out⟩
    · have e1 : ((bs xt).toList == [112, 108, 97, 110]) = false := by rw [HTL.out]; simp [h1]
      have e1' : ¬ (bs xt).toList = [112, 108, 97, 110] := by rw [HTL.out]; exact h1
      by_cases h2 : xt = [108, 111, 115, 115]
      · have e2 : ((bs xt).toList == [108, 111, 115, 115]) = true := by rw [HTL.out]; simp [h2]
        have e2' : (bs xt).toList = [108, 111, 115, 115] := by rw [HTL.out]; exact h2
        have HR : Hid (P = ⟨yk, 0⟩ ∧ V = 2) := by
          have hk : kindN xt = 2 := by rw [h2]; rfl
          unfold Hid
          rw [HKK.out, HVV.out, hk]
          exact ⟨by simp, rfl⟩
        clear h2 h1
        go_wp2_with fail
        go_ret
        rw [HR.out.1, HR.out.2]
        exact ⟨rfl, HP2.out, HM2.out⟩
      · have e2 : ((bs xt).toList == [108, 111, 115, 115]) = false := by rw [HTL.out]; simp [h2]
        have e2' : ¬ (bs xt).toList = [108, 111, 115, 115] := by rw [HTL.out]; exact h2
        by_cases h3 : xt = [116, 114, 105, 112]
        · have e3 : ((bs xt).toList == [116, 114, 105, 112]) = true := by rw [HTL.out]; simp [h3]
          have e3' : (bs xt).toList = [116, 114, 105, 112] := by rw [HTL.out]; exact h3
          have HR : Hid (P = ⟨yk, 0⟩ ∧ V = 3) := by
            have hk : kindN xt = 3 := by rw [h3]; rfl
            unfold Hid
            rw [HKK.out, HVV.out, hk]
            exact ⟨by simp, rfl⟩
          clear h3 h1 h2
          go_wp2_with fail
          go_ret
          rw [HR.out.1, HR.out.2]
          exact ⟨rfl, HP2.out, HM2.out⟩
        · have e3 : ((bs xt).toList == [116, 114, 105, 112]) = false := by rw [HTL.out]; simp [h3]
          have e3' : ¬ (bs xt).toList = [116, 114, 105, 112] := by rw [HTL.out]; exact h3
          have HR : Hid (P = ⟨yk, 3⟩ ∧ V = 0) := by
            have hk : kindN xt = 0 := by unfold kindN; rw [if_neg h1, if_neg h2, if_neg h3]
            unfold Hid
            rw [HKK.out, HVV.out, hk]
            exact ⟨by simp, rfl⟩
          clear h1 h2 h3
          go_wp2_with fail
          go_ret
          rw [HR.out.1, HR.out.2]
          exact ⟨rfl, HP2.out.set2 3, Mv.set HM2.out _ _⟩
set_option maxRecDepth 100000 in
set_option maxHeartbeats 8000000 in
theorem nline_any (g : Nat) (s : ByteArray) (p : PS) (zs : List Int) (w : World) (h : PAt w g s p) (hs : s.size ≤ maxLen) (hz : lineV s.data.toList p = zs) :
    Calls Tryz.prog 29 #[.pointer (some ⟨g, 0, none⟩)] w fun e w' => e = .returned (.agg #[.int .i64 (zs.getD 0 0), .int .i64 (zs.getD 1 0), .int .i64 (zs.getD 2 0), .int .i64 (zs.getD 3 0)]) ∧ PAt w' g s (lineP s.data.toList p) ∧ Mv g w w' := by
  have HP : Hid (lineP s.data.toList p = psE s.data.toList (psIs s.data.toList 4 (psW s.data.toList (psE s.data.toList p 1) [108, 105, 110, 101])) 2) := rfl
  have HV : Hid (zs = psVs s.data.toList 4 (psW s.data.toList (psE s.data.toList p 1) [108, 105, 110, 101])) := hz.symm
  have HGL := Lib.hid h.blk.lt
  have HS := Lib.hid hs
  have H := Lib.hid h
  clear h hs hz
  go_enter Tryz.func29, Tryz.ntmps29
  go_wp2_with fail
  have hR := RowN.of_blk (World.alloc_heap_new w (.cells #[.int .i64 0, .int .i64 0, .int .i64 0, .int .i64 0] 46))
  have hE : Ext w (w.alloc (.cells #[.int .i64 0, .int .i64 0, .int .i64 0, .int .i64 0] 46)) := Ext.al Ext.rfl' _
  have hsz : (w.alloc (.cells #[.int .i64 0, .int .i64 0, .int .i64 0, .int .i64 0] 46)).heap.size = w.heap.size + 1 := by simp
  generalize (w.alloc (.cells #[.int .i64 0, .int .i64 0, .int .i64 0, .int .i64 0] 46)) = w0 at *
  have RN0 := Lib.hid (show RowN w0 w.heap.size 4 from hR)
  have SZ := Lib.hid hsz
  have HM0 := Lib.hid (Mv.of (g := g) hE)
  have HS0 : Hid (w.heap.size + 1 ≤ w0.heap.size) := by have := SZ.out; unfold Hid; omega
  have HP0 := Lib.hid (H.out.ext hE)
  clear hR hsz hE
  refine (nexpect_any g s p 1 w0 HP0.out HS.out).mono ?_
  rintro e w1 ⟨⟨_, _, _, _, _, _, _, _, rfl⟩, hp, hm⟩
  have HP1 := Lib.hid hp
  have HM1 := Lib.hid (Mv.trans HM0.out hm)
  have RN1 := Lib.hid (RN0.out.mv hm (by have := HGL.out; omega))
  have HS1 := Lib.hid hm.size
  clear hp hm
  go_wp2_with fail
  refine (word_any g s _ ⟨#[108, 105, 110, 101]⟩ w1 HP1.out HS.out).mono ?_
  rintro e w2 ⟨rfl, hp, hm⟩
  have HP2 := Lib.hid hp
  have HM2 := Lib.hid (Mv.trans HM1.out hm)
  have RN2 := Lib.hid (RN1.out.mv hm (by have := HGL.out; omega))
  have HS2 : Hid (w0.heap.size ≤ w2.heap.size) := Nat.le_trans HS1.out hm.size
  clear hp hm
  go_wp2_with fail
  obtain ⟨p2, hp2⟩ : ∃ p2, psW s.data.toList (psE s.data.toList p 1) [108, 105, 110, 101] = p2 := ⟨_, rfl⟩
  rw [hp2] at HP HV
  have HP2' : Hid (PAt w2 g s p2) := by rw [← hp2]; exact HP2
  clear HP2 hp2
  have HP2 := HP2'
  clear HP2'
  have hls := nlist_any g s p2 4 w2 HP2.out HS.out (by omega)
  rw [show ((4 : Nat) : Int) = 4 from rfl] at hls
  have HLS := Lib.hid hls
  clear hls
  refine (HLS.out).mono ?_
  rintro e w3 ⟨⟨r, rfl, hr1, hr2, hr3⟩, hp, hm⟩
  have HP3 := Lib.hid hp
  have HM3 := Lib.hid (Mv.trans HM2.out hm)
  have RN3 := Lib.hid (RN2.out.mv hm (by have := HGL.out; omega))
  have hs2 := HM2.out.size
  have HR1 : Hid (w.heap.size + 1 ≤ r) := by have h1 := HS0.out; have h2 := HS2.out; unfold Hid; omega
  have HR3 := Lib.hid hr3
  have HRL := Lib.hid hr2.1
  clear hr1 hr2 hr3 hs2
  clear hp hm
  go_wp2_with fail
  refine (nexpect_any g s _ 2 w3 HP3.out HS.out).mono ?_
  rintro e w4 ⟨⟨_, _, _, _, _, _, _, _, rfl⟩, hp, hm⟩
  have HP4 := Lib.hid hp
  have HM4 := Lib.hid (Mv.trans HM3.out hm)
  have RN4 := Lib.hid (RN3.out.mv hm (by have := HGL.out; omega))
  have HR4 : Hid (∀ i, i < 4 → w4.cell? ⟨r, i, none⟩ = some (.int .i64 (zs.getD i 0))) := fun i hi => by
    rw [HV.out]
    exact hm.cell (HR3.out i hi) (by have := HR1.out; have := HGL.out; simp; omega)
  clear hp hm
  have HEX : Hid (Ext w4 w4.drew) := Ext.rfl'.drew
  have RN5 := Lib.hid (RN4.out.ext HEX.out)
  have HT := Lib.hid (RN5.out.there (o := 0) (k := 4) (by omega))
  go_wp2_with fail
  refine wp_region_lexS (C := InX w4.drew []) (by kernel_rfl) (by kernel_rfl) (inX_self _ _) ?_
  have HP5 := Lib.hid (HP4.out.ext HEX.out)
  have HM5 := Lib.hid (Mv.trans HM4.out (Mv.of HEX.out))
  have q0 := Ext.cellOf HEX.out (HR4.out 0 (by omega))
  have q1 := Ext.cellOf HEX.out (HR4.out 1 (by omega))
  have q2 := Ext.cellOf HEX.out (HR4.out 2 (by omega))
  have q3 := Ext.cellOf HEX.out (HR4.out 3 (by omega))
  generalize w4.drew = w5 at *
  have x0 := fun z : ExtX w5 [] => z.cell (p := ⟨r, 0, none⟩) q0 (by simp)
  have x1 := fun z : ExtX w5 [] => z.cell (p := ⟨r, 1, none⟩) q1 (by simp)
  have x2 := fun z : ExtX w5 [] => z.cell (p := ⟨r, 2, none⟩) q2 (by simp)
  have x3 := fun z : ExtX w5 [] => z.cell (p := ⟨r, 3, none⟩) q3 (by simp)
  clear q0 q1 q2 q3
  repeat (refine lexAt_still (by rfl) ?_; go_big_quiet_step (fail); refine wpQuiet_nil ?_)
  refine lexAt_last (by rfl) (by kernel_rfl) (by kernel_rfl) ?_
  refine wpList_storeV rfl 46 _ _ rfl w.heap.size 0 [.int .i64 (zs.getD 0 0), .int .i64 (zs.getD 1 0), .int .i64 (zs.getD 2 0), .int .i64 (zs.getD 3 0)] rfl rfl HT.out (by kernel_rfl) rfl ?_
  intro w6 hp
  have HP6 := Lib.hid hp
  clear hp x0 x1 x2 x3
  go_wp2_with fail
  refine And.intro trivial (lexAt_nil ?_)
  go_wp2_with fail
  have c0 := HP6.out.here 0 _ rfl
  have c1 := HP6.out.here 1 _ rfl
  have c2 := HP6.out.here 2 _ rfl
  have c3 := HP6.out.here 3 _ rfl
  simp only [Nat.zero_add] at c0 c1 c2 c3
  refine bodyPost_ret (v := .agg #[.int .i64 (zs.getD 0 0), .int .i64 (zs.getD 1 0), .int .i64 (zs.getD 2 0), .int .i64 (zs.getD 3 0)]) (by simp [results, Tryz.results29, go_sem, c0, c1, c2, c3]) rfl ?_
  rw [HP.out]
  exact ⟨rfl, HP5.out.touch HP6.out.touch (by have := HGL.out; omega), Mv.touch HM5.out HP6.out.touch (Nat.le_refl _)⟩
end Go.Proofs.YtnofbjcikfofgaaGreat
