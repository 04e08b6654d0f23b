/- The contract of frac.Parse. Printed by gen_txf.py. -/
import Derived.Test.YtnofbjcikfofgaaGreatTxQ
namespace Go.Proofs.YtnofbjcikfofgaaGreat
open Go.RowKit
theorem zparse_bs (a : Bs) (w : World) (hs : a.length ≤ maxLen) : Calls Tryz.prog 94 #[.string (bs a)] w (RetZE w (zV a) (zE a)) := by
  have := zparse_any (bs a) w (by rw [bs_size]; exact hs)
  rwa [bs_list] at this
/-- A rational and an error. -/
def RetQE (w : World) (q : Rat) (er : Int) (e : Ending) (w' : World) : Prop := ∃ s A n c t B m d, e = .returned (.tuple #[.agg #[.bool s, .slice A n c, .bool t, .slice B m d], .int .i64 er]) ∧ QCan w' w.heap.size s A n c t B m d q ∧ n ≤ 1000 ∧ m ≤ 1000 ∧ Ext w w'
theorem qcan_zero' (w : World) (B : Nat) : QCan w B false none 0 0 false none 0 0 0 := ⟨zcan_zero w B, zcan_zero w B⟩
theorem qcan_int {w : World} {B : Nat} {s : Bool} {A : Option Addr} {n c : Nat} {z : Int} (h : ZCan w B s A n c z) : QCan w B s A n c false none 0 0 (z : Rat) := ⟨by rw [Rat.num_intCast]; exact h, by unfold denOf; rw [if_pos (by simp)]; exact zcan_zero w B⟩
theorem can_rat {z y : Int} (h : canB z y = true) : (mkRat z y.toNat).num = z ∧ ((mkRat z y.toNat).den : Int) = y ∧ 1 < y := by
  unfold canB at h
  rw [Bool.and_eq_true, decide_eq_true_eq, decide_eq_true_eq] at h
  obtain ⟨h1, h2⟩ := h
  have hy : (y.toNat : Int) = y := by omega
  have hn : y.toNat = y.natAbs := by omega
  have h3 : Nat.gcd z.natAbs y.toNat = 1 := by rw [hn]; exact h2
  have h4 : y.toNat ≠ 0 := by omega
  have e : mkRat z y.toNat = ⟨z, y.toNat, h4, h3⟩ := by
    rw [Rat.mk_eq_mkRat]
  rw [e]
  exact ⟨rfl, hy, h1⟩
theorem qcan_frac {w : World} {B : Nat} {s : Bool} {A : Option Addr} {n c : Nat} {t : Bool} {A' : Option Addr} {m d : Nat} {z y : Int} (h : ZCan w B s A n c z) (h' : ZCan w B t A' m d y) (hc : canB z y = true) : QCan w B s A n c t A' m d (mkRat z y.toNat) := by
  obtain ⟨h1, h2, h3⟩ := can_rat hc
  refine ⟨by rw [h1]; exact h, ?_⟩
  unfold denOf
  rw [if_neg (by omega), h2]
  exact h'
theorem cutA_len (l : Bs) : (cutA l).length ≤ l.length := by unfold cutA; rw [List.length_take]; omega
theorem cutB_len (l : Bs) : (cutB l).length ≤ l.length := by
  unfold cutB
  split
  · simp
  · rw [List.length_drop]; omega
theorem qE_one {l : Bs} (h : cutS l = false) : qE l = zE (cutA l) ∧ qV l = (zV (cutA l) : Rat) := by
  have h1 : cutI l = l.length := by unfold cutS at h; simpa using h
  have h2 : cutA l = l := by unfold cutA; rw [h1, List.take_of_length_le (Nat.le_refl _)]
  rw [h2]
  have h3 : qE l = zE l := by unfold qE; rw [if_pos h1]
  refine ⟨h3, ?_⟩
  unfold qV
  rw [h3, if_pos h1]
  by_cases h0 : zE l = 0
  · rw [if_neg (by omega)]
  · rw [if_pos h0]
    unfold zV
    rw [if_neg h0]
    rfl
def qEab (a b : Bs) : Int := if zE a = 5 ∨ zE b = 5 then 5 else if zE a ≠ 0 ∨ zE b ≠ 0 ∨ canB (zV a) (zV b) = false then 3 else 0
def qVab (a b : Bs) : Rat := if qEab a b ≠ 0 then 0 else mkRat (zV a) (zV b).toNat
theorem qE_two {l : Bs} (h : cutS l = true) : qE l = qEab (cutA l) (cutB l) ∧ qV l = qVab (cutA l) (cutB l) := by
  have h1 : cutI l ≠ l.length := by unfold cutS at h; simpa using h
  have e1 : qE l = qEab (cutA l) (cutB l) := by unfold qE qEab cutA cutB; rw [if_neg h1, if_neg h1]
  refine ⟨e1, ?_⟩
  unfold qV qVab
  rw [e1, if_neg h1]
  unfold cutA cutB
  rw [if_neg h1]

set_option maxRecDepth 100000 in
set_option maxHeartbeats 8000000 in
theorem fparse_any (s : ByteArray) (w : World) (hs : s.size ≤ maxLen) :
    Calls Tryz.prog 71 #[.string s] w (RetQE w (qV s.data.toList) (qE s.data.toList)) := by
  have hla : (cutA s.data.toList).length ≤ maxLen := Nat.le_trans (cutA_len _) (by rw [len_list]; exact hs)
  have hlb : (cutB s.data.toList).length ≤ maxLen := Nat.le_trans (cutB_len _) (by rw [len_list]; exact hs)
  have hq1 := qE_one (l := s.data.toList)
  have hq2 := qE_two (l := s.data.toList)
  obtain ⟨q, hq⟩ : ∃ q, qV s.data.toList = q := ⟨_, rfl⟩
  obtain ⟨er, her⟩ : ∃ q, qE s.data.toList = q := ⟨_, rfl⟩
  rw [hq, her] at hq1 hq2
  rw [hq, her]
  clear hq her
  obtain ⟨ca, hca⟩ : ∃ a, cutA s.data.toList = a := ⟨_, rfl⟩
  obtain ⟨cb, hcb⟩ : ∃ a, cutB s.data.toList = a := ⟨_, rfl⟩
  obtain ⟨sp, hsp⟩ : ∃ a, cutS s.data.toList = a := ⟨_, rfl⟩
  rw [hca] at hla hq1 hq2
  rw [hcb] at hlb hq2
  rw [hsp] at hq1 hq2
  have HCA := Lib.hid hca
  have HCB := Lib.hid hcb
  have HSP := Lib.hid hsp
  have HQ1 := Lib.hid hq1
  have HQ2 := Lib.hid hq2
  have HS := Lib.hid hs
  have HLA := Lib.hid hla
  have HLB := Lib.hid hlb
  clear hca hcb hsp hq1 hq2 hs hla hlb
  go_enter Tryz.func71, Tryz.ntmps71
  go_wp2_with fail
  have k0 := Cell4.new (w) (w.heap.size) rfl (.bool false) (.slice none 0 0) (.bool false) (.slice none 0 0) 51
  have hE : Ext w ((w).alloc (.cells #[.bool false, .slice none 0 0, .bool false, .slice none 0 0] 51)) := (Ext.al Ext.rfl' _)
  generalize (w).alloc (.cells #[.bool false, .slice none 0 0, .bool false, .slice none 0 0] 51) = w1 at *
  have Ew1 := Lib.hid hE
  clear hE
  have Kr := Lib.hid k0
  clear k0
  refine (fcut_any s w1 HS.out).mono ?_
  rintro e w2 ⟨rfl, hE⟩
  have Ew2 := Lib.hid hE
  clear hE
  rw [HCA.out, HCB.out, HSP.out]
  go_wp2_with fail
  refine (zparse_bs ca w2 HLA.out).mono ?_
  rintro e w3 ⟨su, Au, nu, cu, rfl, hZ, hN, hE⟩
  have Ew3 := Lib.hid hE
  clear hE
  have Zu := Lib.hid hZ
  have Nu := Lib.hid hN
  clear hZ hN
  obtain ⟨ea, hea⟩ : ∃ v, zE ca = v := ⟨_, rfl⟩
  obtain ⟨va, hva⟩ : ∃ v, zV ca = v := ⟨_, rfl⟩
  rw [hva] at Zu
  rw [hea]
  have HEA := Lib.hid hea
  have HVA := Lib.hid hva
  clear hea hva
  cases sp
  · skip
    obtain ⟨h1, h2⟩ := HQ1.out rfl
    rw [HEA.out] at h1
    rw [HVA.out] at h2
    subst h1 h2
    have LR := (Kr.out.ext (Ext.trans Ew2.out Ew3.out))
    have k0 := Cell2.new w3 _ rfl (.bool su) (.slice Au nu cu) 49
    have hE : Ext w3 (w3.alloc (.cells #[.bool su, .slice Au nu cu] 49)) := Ext.al Ext.rfl' _
    obtain ⟨⟨e0, e1, e2, e3⟩, ⟨f0, f1, f2, f3⟩, el⟩ := LR.ext hE
    obtain ⟨x0, x1, -, -, xl⟩ := k0
    clear LR
    have hq := qcan_int (Zu.out.ext hE)
    have HQ := Lib.hid hq
    have HX := Lib.hid (Ext.trans (Ext.trans Ew1.out (Ext.trans Ew2.out Ew3.out)) hE)
    have hrB := Lib.hid (Ew2.out.size)
    have hrl := Lib.hid (Kr.out.2.2)
    clear hq hE
    go_wp2_with fail
    refine bodyPost_ret (v := .tuple #[.agg #[.bool su, .slice Au nu cu, .bool false, .slice none 0 0], .int .i64 er]) (by simp [results, Tryz.results71, go_sem, e0, e1, e2, e3]) rfl ?_
    obtain ⟨hf1, hf2⟩ := retQ_fill (r := w.heap.size) (Nat.le_refl _) (Nat.lt_of_lt_of_le hrl.out hrB.out) HQ.out HX.out (.bool su) (.slice Au nu cu) (.bool false) (.slice none 0 0)
    exact ⟨_, _, _, _, _, _, _, _, rfl, hf1, Nu.out, by omega, hf2⟩
  · skip
    obtain ⟨h1, h2⟩ := HQ2.out rfl
    subst h1 h2
    have hE5 : Hid (zE ca = ea ∧ zE cb = zE cb) := ⟨HEA.out, rfl⟩
    go_wp2_with fail
    have k0 := Cell2.new (w3) (w3.heap.size) rfl (.bool su) (.slice Au nu cu) 49
    have hE : Ext w3 ((w3).alloc (.cells #[.bool su, .slice Au nu cu] 49)) := (Ext.al Ext.rfl' _)
    generalize (w3).alloc (.cells #[.bool su, .slice Au nu cu] 49) = w4 at *
    have Ew4 := Lib.hid hE
    clear hE
    have Kx := Lib.hid k0
    clear k0
    refine (zparse_bs cb w4 HLB.out).mono ?_
    rintro e w5 ⟨sv, Av, nv, cv, rfl, hZ, hN, hE⟩
    have Ew5 := Lib.hid hE
    clear hE
    have Zv := Lib.hid hZ
    have Nv := Lib.hid hN
    clear hZ hN
    obtain ⟨eb, heb⟩ : ∃ v, zE cb = v := ⟨_, rfl⟩
    obtain ⟨vb, hvb⟩ : ∃ v, zV cb = v := ⟨_, rfl⟩
    rw [hvb] at Zv
    rw [heb]
    have HEB := Lib.hid heb
    have HVB := Lib.hid hvb
    clear heb hvb hE5
    have HER : Hid (qEab ca cb = if ea = 5 ∨ eb = 5 then 5 else if ea ≠ 0 ∨ eb ≠ 0 ∨ canB va vb = false then 3 else 0) := by unfold Hid qEab; rw [HEA.out, HEB.out, HVA.out, HVB.out]
    have HQR : Hid (qVab ca cb = if qEab ca cb ≠ 0 then 0 else mkRat va vb.toNat) := by unfold Hid qVab; rw [HVA.out, HVB.out]
    generalize qEab ca cb = er at *
    generalize qVab ca cb = q at *
    clear HQ1 HQ2
    by_cases h5 : ea = 5 ∨ eb = 5
    · skip
      by_cases ha5 : ea = 5
      · subst ha5
        have HER2 : Hid (er = 5) := by unfold Hid; rw [HER.out, if_pos h5]
        clear HER
        have HER := HER2
        have HQR2 : Hid (q = 0) := by unfold Hid; rw [HQR.out, if_pos (by rw [HER.out]; decide)]
        clear HQR
        have HQR := HQR2
        have LR := (Kr.out.ext (Ext.trans Ew2.out (Ext.trans Ew3.out (Ext.trans Ew4.out Ew5.out))))
        have LX := (Kx.out.ext Ew5.out)
        have k0 := Cell2.new w5 _ rfl (.bool sv) (.slice Av nv cv) 49
        have hE : Ext w5 (w5.alloc (.cells #[.bool sv, .slice Av nv cv] 49)) := Ext.al Ext.rfl' _
        obtain ⟨⟨e0, e1, e2, e3⟩, ⟨f0, f1, f2, f3⟩, el⟩ := LR.ext hE
        obtain ⟨x0, x1, -, -, xl⟩ := LX.ext hE
        obtain ⟨y0, y1, -, -, yl⟩ := k0
        clear LR LX
        have HX := Lib.hid (Ext.trans (Ext.trans Ew1.out (Ext.trans Ew2.out (Ext.trans Ew3.out (Ext.trans Ew4.out Ew5.out)))) hE)
        clear hE
        clear HER2 HQR2
        go_wp2_with fail
        refine bodyPost_ret (v := .tuple #[.agg #[.bool false, .slice none 0 0, .bool false, .slice none 0 0], .int .i64 5]) (by simp [results, Tryz.results71, go_sem, e0, e1, e2, e3]) rfl ?_
        obtain ⟨hf1, hf2⟩ := retQ_fill (r := w.heap.size) (Nat.le_refl _) (B0 := w.heap.size + 1) (Nat.lt_succ_self _) (qcan_zero' _ _) HX.out (.bool false) (.slice none 0 0) (.bool false) (.slice none 0 0)
        rw [HQR.out, HER.out]
        exact ⟨_, _, _, _, _, _, _, _, rfl, hf1, by omega, by omega, hf2⟩
      · have hb5 : eb = 5 := h5.resolve_left ha5
        subst hb5
        have ha5' : (ea == 5) = false := by simp [ha5]
        have HER2 : Hid (er = 5) := by unfold Hid; rw [HER.out, if_pos h5]
        clear HER
        have HER := HER2
        have HQR2 : Hid (q = 0) := by unfold Hid; rw [HQR.out, if_pos (by rw [HER.out]; decide)]
        clear HQR
        have HQR := HQR2
        have LR := (Kr.out.ext (Ext.trans Ew2.out (Ext.trans Ew3.out (Ext.trans Ew4.out Ew5.out))))
        have LX := (Kx.out.ext Ew5.out)
        have k0 := Cell2.new w5 _ rfl (.bool sv) (.slice Av nv cv) 49
        have hE : Ext w5 (w5.alloc (.cells #[.bool sv, .slice Av nv cv] 49)) := Ext.al Ext.rfl' _
        obtain ⟨⟨e0, e1, e2, e3⟩, ⟨f0, f1, f2, f3⟩, el⟩ := LR.ext hE
        obtain ⟨x0, x1, -, -, xl⟩ := LX.ext hE
        obtain ⟨y0, y1, -, -, yl⟩ := k0
        clear LR LX
        have HX := Lib.hid (Ext.trans (Ext.trans Ew1.out (Ext.trans Ew2.out (Ext.trans Ew3.out (Ext.trans Ew4.out Ew5.out)))) hE)
        clear hE
        clear HER2 HQR2
        go_wp2_with fail
        refine bodyPost_ret (v := .tuple #[.agg #[.bool false, .slice none 0 0, .bool false, .slice none 0 0], .int .i64 5]) (by simp [results, Tryz.results71, go_sem, e0, e1, e2, e3]) rfl ?_
        obtain ⟨hf1, hf2⟩ := retQ_fill (r := w.heap.size) (Nat.le_refl _) (B0 := w.heap.size + 1) (Nat.lt_succ_self _) (qcan_zero' _ _) HX.out (.bool false) (.slice none 0 0) (.bool false) (.slice none 0 0)
        rw [HQR.out, HER.out]
        exact ⟨_, _, _, _, _, _, _, _, rfl, hf1, by omega, by omega, hf2⟩
    · have ha5 : (ea == 5) = false := by simp; exact fun e => h5 (.inl e)
      have hb5 : (eb == 5) = false := by simp; exact fun e => h5 (.inr e)
      have HER2 : Hid (er = if ea ≠ 0 ∨ eb ≠ 0 ∨ canB va vb = false then 3 else 0) := by unfold Hid; rw [HER.out, if_neg h5]
      clear HER h5
      have HER := HER2
      clear HER2
      by_cases hea : ea = 0
      rotate_left
      · have hea' : (ea != 0) = true := by simp [hea]
        have HER2 : Hid (er = 3) := by unfold Hid; rw [HER.out, if_pos (.inl hea)]
        clear HER
        have HER := HER2
        have HQR2 : Hid (q = 0) := by unfold Hid; rw [HQR.out, if_pos (by rw [HER.out]; decide)]
        clear HQR
        have HQR := HQR2
        have LR := (Kr.out.ext (Ext.trans Ew2.out (Ext.trans Ew3.out (Ext.trans Ew4.out Ew5.out))))
        have LX := (Kx.out.ext Ew5.out)
        have hE : Ext w5 ((w5.alloc (.cells #[.bool sv, .slice Av nv cv] 49)).alloc (.cells #[.bool su, .slice Au nu cu, .bool sv, .slice Av nv cv] 51)) := Ext.al (Ext.al Ext.rfl' _) _
        have hE1 : Ext w5 (w5.alloc (.cells #[.bool sv, .slice Av nv cv] 49)) := Ext.al Ext.rfl' _
        obtain ⟨⟨e0, e1, e2, e3⟩, ⟨f0, f1, f2, f3⟩, el⟩ := LR.ext hE
        obtain ⟨x0, x1, -, -, xl⟩ := LX.ext hE1
        obtain ⟨y0, y1, -, -, yl⟩ := Cell2.new w5 _ rfl (.bool sv) (.slice Av nv cv) 49
        clear LR LX
        have HX := Lib.hid (Ext.trans (Ext.trans Ew1.out (Ext.trans Ew2.out (Ext.trans Ew3.out (Ext.trans Ew4.out Ew5.out)))) hE)
        clear hE hE1
        clear HER2 HQR2
        go_wp2_with fail
        refine bodyPost_ret (v := .tuple #[.agg #[.bool false, .slice none 0 0, .bool false, .slice none 0 0], .int .i64 3]) (by simp [results, Tryz.results71, go_sem, e0, e1, e2, e3]) rfl ?_
        obtain ⟨hf1, hf2⟩ := retQ_fill (r := w.heap.size) (Nat.le_refl _) (B0 := w.heap.size + 1) (Nat.lt_succ_self _) (qcan_zero' _ _) HX.out (.bool false) (.slice none 0 0) (.bool false) (.slice none 0 0)
        rw [HQR.out, HER.out]
        exact ⟨_, _, _, _, _, _, _, _, rfl, hf1, by omega, by omega, hf2⟩
      · have hea' : (ea != 0) = false := by simp [hea]
        by_cases heb : eb = 0
        rotate_left
        · have heb' : (eb != 0) = true := by simp [heb]
          have HER2 : Hid (er = 3) := by unfold Hid; rw [HER.out, if_pos (.inr (.inl heb))]
          clear HER
          have HER := HER2
          have HQR2 : Hid (q = 0) := by unfold Hid; rw [HQR.out, if_pos (by rw [HER.out]; decide)]
          clear HQR
          have HQR := HQR2
          have LR := (Kr.out.ext (Ext.trans Ew2.out (Ext.trans Ew3.out (Ext.trans Ew4.out Ew5.out))))
          have LX := (Kx.out.ext Ew5.out)
          have hE : Ext w5 ((w5.alloc (.cells #[.bool sv, .slice Av nv cv] 49)).alloc (.cells #[.bool su, .slice Au nu cu, .bool sv, .slice Av nv cv] 51)) := Ext.al (Ext.al Ext.rfl' _) _
          have hE1 : Ext w5 (w5.alloc (.cells #[.bool sv, .slice Av nv cv] 49)) := Ext.al Ext.rfl' _
          obtain ⟨⟨e0, e1, e2, e3⟩, ⟨f0, f1, f2, f3⟩, el⟩ := LR.ext hE
          obtain ⟨x0, x1, -, -, xl⟩ := LX.ext hE1
          obtain ⟨y0, y1, -, -, yl⟩ := Cell2.new w5 _ rfl (.bool sv) (.slice Av nv cv) 49
          clear LR LX
          have HX := Lib.hid (Ext.trans (Ext.trans Ew1.out (Ext.trans Ew2.out (Ext.trans Ew3.out (Ext.trans Ew4.out Ew5.out)))) hE)
          clear hE hE1
          clear HER2 HQR2
          go_wp2_with fail
          refine bodyPost_ret (v := .tuple #[.agg #[.bool false, .slice none 0 0, .bool false, .slice none 0 0], .int .i64 3]) (by simp [results, Tryz.results71, go_sem, e0, e1, e2, e3]) rfl ?_
          obtain ⟨hf1, hf2⟩ := retQ_fill (r := w.heap.size) (Nat.le_refl _) (B0 := w.heap.size + 1) (Nat.lt_succ_self _) (qcan_zero' _ _) HX.out (.bool false) (.slice none 0 0) (.bool false) (.slice none 0 0)
          rw [HQR.out, HER.out]
          exact ⟨_, _, _, _, _, _, _, _, rfl, hf1, by omega, by omega, hf2⟩
        · have heb' : (eb != 0) = false := by simp [heb]
          have HEE := Lib.hid (And.intro hea heb)
          clear hea heb
          have LR := (Kr.out.ext (Ext.trans Ew2.out (Ext.trans Ew3.out (Ext.trans Ew4.out Ew5.out))))
          have LX := (Kx.out.ext Ew5.out)
          have hE : Ext w5 ((w5.alloc (.cells #[.bool sv, .slice Av nv cv] 49)).alloc (.cells #[.bool su, .slice Au nu cu, .bool sv, .slice Av nv cv] 51)) := Ext.al (Ext.al Ext.rfl' _) _
          have hE1 : Ext w5 (w5.alloc (.cells #[.bool sv, .slice Av nv cv] 49)) := Ext.al Ext.rfl' _
          obtain ⟨⟨e0, e1, e2, e3⟩, ⟨f0, f1, f2, f3⟩, el⟩ := LR.ext hE
          obtain ⟨x0, x1, -, -, xl⟩ := LX.ext hE1
          obtain ⟨y0, y1, -, -, yl⟩ := Cell2.new w5 _ rfl (.bool sv) (.slice Av nv cv) 49
          clear LR LX
          have HX := Lib.hid (Ext.trans (Ext.trans Ew1.out (Ext.trans Ew2.out (Ext.trans Ew3.out (Ext.trans Ew4.out Ew5.out)))) hE)
          clear hE hE1
          clear e0 e1 e2 e3 f0 f1 f2 f3 el HX
          go_wp2_with fail
          clear x0 x1 xl y0 y1 yl
          have k0 := Cell2.new (w5) (w5.heap.size) rfl (.bool sv) (.slice Av nv cv) 49
          have k1 := Cell4.new ((w5).alloc (.cells #[.bool sv, .slice Av nv cv] 49)) (w5.heap.size + 1) (by simp) (.bool su) (.slice Au nu cu) (.bool sv) (.slice Av nv cv) 51
          have hE : Ext w5 (((w5).alloc (.cells #[.bool sv, .slice Av nv cv] 49)).alloc (.cells #[.bool su, .slice Au nu cu, .bool sv, .slice Av nv cv] 51)) := (Ext.al (Ext.al Ext.rfl' _) _)
          have k0 := k0.ext (show Ext ((w5).alloc (.cells #[.bool sv, .slice Av nv cv] 49)) (((w5).alloc (.cells #[.bool sv, .slice Av nv cv] 49)).alloc (.cells #[.bool su, .slice Au nu cu, .bool sv, .slice Av nv cv] 51)) from (Ext.al Ext.rfl' _))
          generalize ((w5).alloc (.cells #[.bool sv, .slice Av nv cv] 49)).alloc (.cells #[.bool su, .slice Au nu cu, .bool sv, .slice Av nv cv] 51) = w6 at *
          have Ew6 := Lib.hid hE
          clear hE
          have Ky := Lib.hid k0
          clear k0
          have Ka := Lib.hid k1
          clear k1
          obtain ⟨dv, hdv⟩ : ∃ v, vb.sign = v := ⟨_, rfl⟩
          refine (sign_any sv Av nv cv vb w6 (Zv.out.ext Ew6.out).is).mono ?_
          rintro e w7 ⟨rfl, hE⟩
          rw [hdv]
          have HDV := Lib.hid hdv
          clear hdv
          have Ew7 := Lib.hid hE
          clear hE
          by_cases hv0 : vb = 0
          · skip
            have hdv : (dv == 0) = true := by rw [← HDV.out, hv0]; rfl
            have hcb : canB va vb = false := by rw [hv0]; unfold canB; rfl
            have HER2 : Hid (er = 3) := by unfold Hid; rw [HER.out, if_pos (.inr (.inr hcb))]
            clear HER
            have HER := HER2
            have HQR2 : Hid (q = 0) := by unfold Hid; rw [HQR.out, if_pos (by rw [HER.out]; decide)]
            clear HQR
            have HQR := HQR2
            clear HER2 HQR2 hcb hv0 HDV
            obtain ⟨⟨e0, e1, e2, e3⟩, ⟨f0, f1, f2, f3⟩, el⟩ := (Kr.out.ext (Ext.trans Ew2.out (Ext.trans Ew3.out (Ext.trans Ew4.out (Ext.trans Ew5.out (Ext.trans Ew6.out Ew7.out))))))
            have HX := Lib.hid (Ext.trans Ew1.out (Ext.trans Ew2.out (Ext.trans Ew3.out (Ext.trans Ew4.out (Ext.trans Ew5.out (Ext.trans Ew6.out Ew7.out))))))
            go_wp2_with fail
            refine bodyPost_ret (v := .tuple #[.agg #[.bool false, .slice none 0 0, .bool false, .slice none 0 0], .int .i64 3]) (by simp [results, Tryz.results71, go_sem, e0, e1, e2, e3]) rfl ?_
            obtain ⟨hf1, hf2⟩ := retQ_fill (r := w.heap.size) (Nat.le_refl _) (B0 := w.heap.size + 1) (Nat.lt_succ_self _) (qcan_zero' _ _) HX.out (.bool false) (.slice none 0 0) (.bool false) (.slice none 0 0)
            rw [HQR.out, HER.out]
            exact ⟨_, _, _, _, _, _, _, _, rfl, hf1, by omega, by omega, hf2⟩
          · skip
            have hdv : (dv == 0) = false := by rw [← HDV.out]; simpa using fun e => hv0 (Int.sign_eq_zero_iff_zero.1 e)
            have HV0 := Lib.hid hv0
            clear hv0 HDV
            obtain ⟨⟨xa0, xa1, xa2, xa3⟩, -, za⟩ := (Ka.out.ext Ew7.out)
            go_wp2_with fail
            clear xa0 xa1 xa2 xa3 za
            clear hdv
            refine (qcanB_any su Au nu cu va sv Av nv cv vb _ _ w7 (Zu.out.ext (Ext.trans Ew4.out (Ext.trans Ew5.out (Ext.trans Ew6.out Ew7.out)))) (Zv.out.ext (Ext.trans Ew6.out Ew7.out)) (by have := Nu.out; omega) (by have := Nv.out; omega) HV0.out).mono ?_
            rintro e w8 ⟨rfl, hE⟩
            obtain ⟨cb', hcb⟩ : ∃ v, canB va vb = v := ⟨_, rfl⟩
            rw [hcb]
            have HCN := Lib.hid hcb
            clear hcb
            have Ew8 := Lib.hid hE
            clear hE
            cases cb'
            · skip
              have HER2 : Hid (er = 3) := by unfold Hid; rw [HER.out, if_pos (.inr (.inr HCN.out))]
              clear HER
              have HER := HER2
              have HQR2 : Hid (q = 0) := by unfold Hid; rw [HQR.out, if_pos (by rw [HER.out]; decide)]
              clear HQR
              have HQR := HQR2
              clear HER2 HQR2
              obtain ⟨⟨e0, e1, e2, e3⟩, ⟨f0, f1, f2, f3⟩, el⟩ := (Kr.out.ext (Ext.trans Ew2.out (Ext.trans Ew3.out (Ext.trans Ew4.out (Ext.trans Ew5.out (Ext.trans Ew6.out (Ext.trans Ew7.out Ew8.out)))))))
              have HX := Lib.hid (Ext.trans Ew1.out (Ext.trans Ew2.out (Ext.trans Ew3.out (Ext.trans Ew4.out (Ext.trans Ew5.out (Ext.trans Ew6.out (Ext.trans Ew7.out Ew8.out)))))))
              go_wp2_with fail
              refine bodyPost_ret (v := .tuple #[.agg #[.bool false, .slice none 0 0, .bool false, .slice none 0 0], .int .i64 3]) (by simp [results, Tryz.results71, go_sem, e0, e1, e2, e3]) rfl ?_
              obtain ⟨hf1, hf2⟩ := retQ_fill (r := w.heap.size) (Nat.le_refl _) (B0 := w.heap.size + 1) (Nat.lt_succ_self _) (qcan_zero' _ _) HX.out (.bool false) (.slice none 0 0) (.bool false) (.slice none 0 0)
              rw [HQR.out, HER.out]
              exact ⟨_, _, _, _, _, _, _, _, rfl, hf1, by omega, by omega, hf2⟩
            · skip
              have HER2 : Hid (er = 0) := by
                unfold Hid
                rw [HER.out, if_neg]
                rintro (h | h | h)
                · exact h HEE.out.1
                · exact h HEE.out.2
                · rw [HCN.out] at h; cases h
              clear HER
              have HER := HER2
              have HQR2 : Hid (q = mkRat va vb.toNat) := by unfold Hid; rw [HQR.out, if_neg (by rw [HER.out]; simp)]
              clear HQR HER2
              have HQR := HQR2
              clear HQR2
              obtain ⟨⟨xa0, xa1, xa2, xa3⟩, -, za⟩ := (Ka.out.ext (Ext.trans Ew7.out Ew8.out))
              obtain ⟨⟨e0, e1, e2, e3⟩, ⟨f0, f1, f2, f3⟩, el⟩ := (Kr.out.ext (Ext.trans Ew2.out (Ext.trans Ew3.out (Ext.trans Ew4.out (Ext.trans Ew5.out (Ext.trans Ew6.out (Ext.trans Ew7.out Ew8.out)))))))
              have HX := Lib.hid (Ext.trans Ew1.out (Ext.trans Ew2.out (Ext.trans Ew3.out (Ext.trans Ew4.out (Ext.trans Ew5.out (Ext.trans Ew6.out (Ext.trans Ew7.out Ew8.out)))))))
              have HQ := Lib.hid (qcan_frac ((Zu.out.ext (Ext.trans Ew4.out (Ext.trans Ew5.out (Ext.trans Ew6.out (Ext.trans Ew7.out Ew8.out))))).base (B' := w1.heap.size) Ew2.out.size) ((Zv.out.ext (Ext.trans Ew6.out (Ext.trans Ew7.out Ew8.out))).base (B' := w1.heap.size) (Nat.le_trans Ew2.out.size (Nat.le_trans Ew3.out.size Ew4.out.size))) HCN.out)
              have hrl := Lib.hid Kr.out.2.2
              go_wp2_with fail
              clear xa0 xa1 xa2 xa3 za
              refine bodyPost_ret (v := .tuple #[.agg #[.bool su, .slice Au nu cu, .bool sv, .slice Av nv cv], .int .i64 0]) (by simp [results, Tryz.results71, go_sem, e0, e1, e2, e3]) rfl ?_
              obtain ⟨hf1, hf2⟩ := retQ_fill (r := w.heap.size) (Nat.le_refl _) hrl.out HQ.out HX.out (.bool su) (.slice Au nu cu) (.bool sv) (.slice Av nv cv)
              rw [HQR.out, HER.out]
              exact ⟨_, _, _, _, _, _, _, _, rfl, hf1, Nu.out, Nv.out, hf2⟩

end Go.Proofs.YtnofbjcikfofgaaGreat
