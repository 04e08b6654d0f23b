/- The law NettextInvalid returns true. Printed by gen_txinv.py. -/
import Derived.Test.YtnofbjcikfofgaaGreatTxAw
import Derived.Test.YtnofbjcikfofgaaGreatTxWr
namespace Go.Proofs.YtnofbjcikfofgaaGreat
open Go.RowKit
theorem lines_rdg {l : Bs} : ∀ {ls : List (List Int)} {k k' : Int} {ts : List Tok} {f : Nat} {acc : List (List Int)}, (∀ z ∈ ls, z.length = 4 ∧ ∀ x ∈ z, I64r x) → Rd l k (ls.flatMap lnTok ++ tokC :: ts) k' → ls.length < f →
    ∃ m, linesP l f ⟨k, 0⟩ acc = (⟨m, 0⟩, acc ++ ls) ∧ Rd l m (tokC :: ts) k'
  | [], k, k', ts, f, acc, _, h, _ => by
    have h1 : Rd l k (tokC :: ts) k' := h
    have h2 : psMore l ⟨k, 0⟩ = false := by
      unfold psMore
      rw [peek_rd h1 1]
      rfl
    exact ⟨k, by rw [linesP_stop h2, List.append_nil], h1⟩
  | z :: ls, k, k', ts, 0, acc, _, _, hf => by omega
  | z :: ls, k, k', ts, f + 1, acc, hi, h, hf => by
    have h1 : Rd l k (lnTok z ++ (ls.flatMap lnTok ++ tokC :: ts)) k' := by
      rw [← List.append_assoc]
      exact h
    have hz := hi z List.mem_cons_self
    have hq : I64r (z.getD 0 0) ∧ I64r (z.getD 1 0) ∧ I64r (z.getD 2 0) ∧ I64r (z.getD 3 0) := by
      match z, hz.1 with
      | [a, b, c, d], _ => exact ⟨hz.2 a (by simp), hz.2 b (by simp), hz.2 c (by simp), hz.2 d (by simp)⟩
    obtain ⟨hm, m, e1, e2, h2⟩ := line_rd hz.1 hq h1
    obtain ⟨m2, e3, h3⟩ := lines_rdg (f := f) (acc := acc ++ [z]) (fun x hx => hi x (List.mem_cons_of_mem _ hx)) h2 (by simp at hf; omega)
    refine ⟨m2, ?_, h3⟩
    rw [linesP_more hm, e1, e2, e3]
    simp
theorem net_rdg {l : Bs} {k k' b : Int} {ls : List (List Int)} (hb : I64r b) (hi : ∀ z ∈ ls, z.length = 4 ∧ ∀ x ∈ z, I64r x) (h : Rd l k (netToks b ls) k') : netR l k = if netC b ls = 0 then ⟨b, ls, k', 0⟩ else ⟨0, [], 0, netC b ls⟩ := by
  have hlen := (rd_len h)
  have hll : ls.length < l.length + 2 := by
    rcases hlen.2 with e | ⟨_, h2⟩
    · cases e
    · have h3 := hlen.1
      have := netToks_len b ls
      omega
  have h0 : Rd l k (tokO :: tokW [110, 101, 116] :: tokN (b : Rat) :: (ls.flatMap lnTok ++ tokC :: [])) k' := h
  obtain ⟨m1, e1, h1, -⟩ := psE_rd h0
  obtain ⟨m2, e2, h2⟩ := psW_rd h1
  obtain ⟨m3, e3, h3, ev⟩ := psI_rd hb h2
  obtain ⟨m4, e4, h5⟩ := lines_rdg (acc := []) hi h3 hll
  obtain ⟨m5, e5, h6, -⟩ := psE_rd h5
  have f1 : psE l ⟨k, 0⟩ 1 = ⟨m1, 0⟩ := e1
  have f5 : psE l ⟨m4, 0⟩ 2 = ⟨m5, 0⟩ := e5
  have f6 : m5 = k' := h6
  have hd : netHd l k = ⟨m2, 0⟩ := by unfold netHd; rw [f1, e2]
  unfold netR
  rw [hd, e3, ev, e4]
  simp only [List.nil_append]
  unfold netEnd netE
  rw [f5, if_pos rfl, f6]
  by_cases hc : netC b ls = 0
  · rw [if_neg (by rw [hc]; simp), if_pos hc]
  · rw [if_pos hc, if_neg hc]
theorem out_rdg {l : Bs} {k k' kd wh fr to_ : Int} (hk : kd = 1 ∨ kd = 2 ∨ kd = 3) (i1 : I64r wh) (i2 : I64r fr) (i3 : I64r to_) (h : Rd l k (outToks kd wh fr to_) k') : outR l k = if validO kd wh fr to_ then ⟨kd, wh, fr, to_, k', 0⟩ else ⟨0, 0, 0, 0, 0, 1⟩ := by
  have h0 : Rd l k (tokO :: tokW (outName kd) :: ([wh, fr, to_].map (fun (z : Int) => tokN (z : Rat)) ++ [tokC])) k' := h
  obtain ⟨m1, e1, h1, -⟩ := psE_rd h0
  obtain ⟨m2, e2, h2, et⟩ := psE_rd h1
  obtain ⟨m3, e3, h3, ev⟩ := psIs_rd (by
      intro x hx
      simp only [List.mem_cons, List.not_mem_nil, or_false] at hx
      rcases hx with rfl | rfl | rfl
      · exact i1
      · exact i2
      · exact i3) h2
  obtain ⟨m4, e4, h4, -⟩ := psE_rd h3
  have f1 : psE l ⟨k, 0⟩ 1 = ⟨m1, 0⟩ := e1
  have f2 : psE l ⟨m1, 0⟩ 3 = ⟨m2, 0⟩ := e2
  have ft : psT l ⟨m1, 0⟩ 3 = tokW (outName kd) := et
  have f3 : psIs l 3 ⟨m2, 0⟩ = ⟨m3, 0⟩ := e3
  have fv : psVs l 3 ⟨m2, 0⟩ = [wh, fr, to_] := ev
  have f4 : psE l ⟨m3, 0⟩ 2 = ⟨m4, 0⟩ := e4
  have f5 : m4 = k' := h4
  have hn : kindN (outName kd) = kd := by rcases hk with rfl | rfl | rfl <;> rfl
  have gk : psK l ⟨m1, 0⟩ = ⟨m2, 0⟩ := by
    unfold psK
    rw [f2, ft]
    have : kindN (tokW (outName kd)).text = kd := hn
    rw [this, if_neg (by simp), if_neg (by omega)]
  have gv : psKV l ⟨m1, 0⟩ = kd := by
    unfold psKV
    rw [f2, ft, if_neg (by simp)]
    exact hn
  unfold outR
  rw [f1, gk, gv, f3, fv]
  unfold outE
  rw [f4, if_neg (by simp), f5]
  rfl
theorem net_goodg {b : Int} {ls : List (List Int)} (hb : I64r b) (hi : ∀ z ∈ ls, z.length = 4 ∧ ∀ x ∈ z, I64r x) : ∀ t ∈ netToks b ls, GoodT t := by
  intro t ht
  unfold netToks at ht
  rcases List.mem_cons.1 ht with rfl | ht
  · exact .inl rfl
  rcases List.mem_cons.1 ht with rfl | ht
  · exact .inr (.inr (.inl ⟨_, rfl, by decide +kernel⟩))
  rcases List.mem_cons.1 ht with rfl | ht
  · exact good_num hb
  rcases List.mem_append.1 ht with ht | ht
  · obtain ⟨z, hz, ht⟩ := List.mem_flatMap.1 ht
    have hz := hi z hz
    have hq : I64r (z.getD 0 0) ∧ I64r (z.getD 1 0) ∧ I64r (z.getD 2 0) ∧ I64r (z.getD 3 0) := by
      match z, hz.1 with
      | [a, b, c, d], _ => exact ⟨hz.2 a (by simp), hz.2 b (by simp), hz.2 c (by simp), hz.2 d (by simp)⟩
    simp only [lnTok, List.mem_cons, List.not_mem_nil, or_false] at ht
    rcases ht with rfl | rfl | rfl | rfl | rfl | rfl | rfl
    · exact .inl rfl
    · exact .inr (.inr (.inl ⟨_, rfl, by decide +kernel⟩))
    · exact good_num hq.1
    · exact good_num hq.2.1
    · exact good_num hq.2.2.1
    · exact good_num hq.2.2.2
    · exact .inr (.inl rfl)
  · obtain rfl : t = tokC := by simpa using ht
    exact .inr (.inl rfl)
theorem out_goodg {kd wh fr to_ : Int} (hk : kd = 1 ∨ kd = 2 ∨ kd = 3) (i1 : I64r wh) (i2 : I64r fr) (i3 : I64r to_) : ∀ t ∈ outToks kd wh fr to_, GoodT t := by
  have hw : allC isLow (outName kd) = true := by rcases hk with rfl | rfl | rfl <;> decide +kernel
  intro t ht
  simp only [outToks, List.mem_cons, List.not_mem_nil, or_false] at ht
  rcases ht with rfl | rfl | rfl | rfl | rfl | rfl
  · exact .inl rfl
  · exact .inr (.inr (.inl ⟨_, rfl, hw⟩))
  · exact good_num i1
  · exact good_num i2
  · exact good_num i3
  · exact .inr (.inl rfl)
theorem net_packi (b : Int) (ls : List (List Int)) (n : Nat) (hn : ls.length = n) (h40 : n ≤ 40) (hb : I64r b) (hi : ∀ z ∈ ls, z.length = 4 ∧ ∀ x ∈ z, I64r x) : ∃ F : ByteArray, bs (netX b ls) = F ∧ F.size ≤ 5000 ∧ netR F.data.toList 0 = if netC b ls = 0 then ⟨b, ls, (F.size : Int), 0⟩ else ⟨0, [], 0, netC b ls⟩ := by
  have h1 := numX_len hb
  have h2 := lnXs_len hi
  have hl : (netX b ls).length ≤ 5000 := by
    unfold netX
    simp only [List.length_append, List.length_cons, List.length_nil]
    omega
  refine ⟨_, rfl, by rw [bs_size]; exact hl, ?_⟩
  rw [bs_list, bs_size]
  rw [netX_is] at hl ⊢
  refine net_rdg hb hi ?_
  have h := rd_fmt [] [] (tokO :: tokW [110, 101, 116] :: numT b :: ls.flatMap lnTok) (fun t ht => net_goodg hb hi t (by
    show t ∈ (tokO :: tokW [110, 101, 116] :: numT b :: ls.flatMap lnTok) ++ [tokC]
    exact List.mem_append_left _ ht)) (by
    show ([] ++ (fmtT (netToks b ls) ++ [])).length ≤ 65536
    simp
    omega)
  simp only [List.nil_append, List.append_nil, List.length_nil, Nat.zero_add] at h
  exact h
theorem out_packi (kd wh fr to_ : Int) (hk : kd = 1 ∨ kd = 2 ∨ kd = 3) (i1 : I64r wh) (i2 : I64r fr) (i3 : I64r to_) : ∃ F : ByteArray, bs (outX kd wh fr to_) = F ∧ F.size ≤ 5000 ∧ outR F.data.toList 0 = if validO kd wh fr to_ then ⟨kd, wh, fr, to_, (F.size : Int), 0⟩ else ⟨0, 0, 0, 0, 0, 1⟩ := by
  have h1 := numX_len i1
  have h2 := numX_len i2
  have h3 := numX_len i3
  have h4 : (outName kd).length = 4 := by rcases hk with rfl | rfl | rfl <;> rfl
  have hl : (outX kd wh fr to_).length ≤ 5000 := by
    unfold outX
    simp only [List.length_append, List.length_cons, List.length_nil]
    omega
  refine ⟨_, rfl, by rw [bs_size]; exact hl, ?_⟩
  rw [bs_list, bs_size]
  rw [outX_is] at hl ⊢
  refine out_rdg hk i1 i2 i3 ?_
  have h := rd_fmt [] [] [tokO, tokW (outName kd), numT wh, numT fr, numT to_] (fun t ht => out_goodg hk i1 i2 i3 t (by
    show t ∈ [tokO, tokW (outName kd), numT wh, numT fr, numT to_] ++ [tokC]
    exact List.mem_append_left _ ht)) (by
    show ([] ++ (fmtT (outToks kd wh fr to_) ++ [])).length ≤ 65536
    simp
    omega)
  simp only [List.nil_append, List.append_nil, List.length_nil, Nat.zero_add] at h
  exact h
set_option maxRecDepth 100000 in
set_option maxHeartbeats 64000000 in
theorem inv_any (b : Int) (P : Option Addr) (n c : Nat) (ls : List (List Int)) (kd wh fr to_ : Int) (w : World) (h : LinesAt w P n ls) (hb : I64r b) (hi : ∀ z ∈ ls, z.length = 4 ∧ ∀ x ∈ z, I64r x) (hk : 0 ≤ kd ∧ kd ≤ 255) (i1 : I64r wh) (i2 : I64r fr) (i3 : I64r to_) :
    Calls Tryz.prog 4 #[.agg #[.int .i64 b, .slice P n c], .agg #[.int .u8 kd, .int .i64 wh, .int .i64 fr, .int .i64 to_]] w fun e w' => e = .returned (.bool true) ∧ Ext w w' := by
  have H := Lib.hid h
  have HI := Lib.hid (And.intro hb hi)
  have HO := Lib.hid (And.intro i1 (And.intro i2 i3))
  have HK := Lib.hid hk
  clear h hb hi i1 i2 i3 hk
  go_enter Tryz.func4, Tryz.ntmps4
  have hA := Cell2.new w _ rfl (.int .i64 b) (.slice P n c) 24
  have hAB : Ext (w.alloc (.cells #[.int .i64 b, .slice P n c] 24)) ((w.alloc (.cells #[.int .i64 b, .slice P n c] 24)).alloc (.cells #[.int .u8 kd, .int .i64 wh, .int .i64 fr, .int .i64 to_] 26)) := Ext.al Ext.rfl' _
  have hB := Cell4.new (w.alloc (.cells #[.int .i64 b, .slice P n c] 24)) _ rfl (.int .u8 kd) (.int .i64 wh) (.int .i64 fr) (.int .i64 to_) 26
  have hE0 : Ext w ((w.alloc (.cells #[.int .i64 b, .slice P n c] 24)).alloc (.cells #[.int .u8 kd, .int .i64 wh, .int .i64 fr, .int .i64 to_] 26)) := Ext.trans (Ext.al Ext.rfl' _) hAB
  have hA2 := hA.ext hAB
  have he : (w.alloc (.cells #[.int .i64 b, .slice P n c] 24)).heap.size = w.heap.size + 1 := by simp
  rw [he] at hB
  have HA := Lib.hid hA2
  have HB := Lib.hid hB
  have HE := Lib.hid hE0
  clear hA hAB hB hE0 hA2 he
  obtain ⟨a0, a1, -, -, -⟩ := HA.out
  obtain ⟨⟨b0, b1, b2, b3⟩, -, -⟩ := HB.out
  go_wp2_with fail
  clear a0 a1 b0 b1 b2 b3
  generalize ((w.alloc (.cells #[.int .i64 b, .slice P n c] 24)).alloc (.cells #[.int .u8 kd, .int .i64 wh, .int .i64 fr, .int .i64 to_] 26)) = w0 at *
  obtain ⟨ga, hga⟩ : ∃ x, w.heap.size = x := ⟨_, rfl⟩
  rw [hga] at HA HB ⊢
  clear hga
  obtain ⟨gb, hgb⟩ : ∃ x, ga + 1 = x := ⟨_, rfl⟩
  rw [hgb] at HB ⊢
  clear hgb
  refine (long_any ⟨#[]⟩ b P n c w0).mono ?_
  rintro e w1 ⟨rfl, hE⟩
  have HA2 := Lib.hid (HA.out.ext hE)
  have HB2 := Lib.hid (HB.out.ext hE)
  have HE2 := Lib.hid (Ext.trans HE.out hE)
  clear HA HB HE hE
  have HA := HA2
  clear HA2
  have HB := HB2
  clear HB2
  have HE := HE2
  clear HE2
  obtain ⟨lg, hlg⟩ : ∃ v, (decide (5000 < (⟨#[]⟩ : ByteArray).size) || decide (40 < n)) = v := ⟨_, rfl⟩
  rw [hlg]
  have HLG := Lib.hid hlg
  clear hlg
  cases lg with
  | true =>
    obtain ⟨a0, a1, -, -, -⟩ := HA.out
    obtain ⟨⟨b0, b1, b2, b3⟩, -, -⟩ := HB.out
    go_wp2_with fail
    clear a0 a1 b0 b1 b2 b3
    refine (awake_true w1).mono ?_
    rintro e w2 ⟨rfl, hE⟩
    have HA2 := Lib.hid (HA.out.ext hE)
    have HB2 := Lib.hid (HB.out.ext hE)
    have HE2 := Lib.hid (Ext.trans HE.out hE)
    clear HA HB HE hE
    have HA := HA2
    clear HA2
    have HB := HB2
    clear HB2
    have HE := HE2
    clear HE2
    obtain ⟨a0, a1, -, -, -⟩ := HA.out
    obtain ⟨⟨b0, b1, b2, b3⟩, -, -⟩ := HB.out
    go_wp2_with fail
    go_ret
    exact ⟨rfl, HE.out⟩
  | false =>
    have HN : Hid (n ≤ 40) := by
      have := HLG.out
      simp only [Bool.or_eq_false_iff, decide_eq_false_iff_not] at this
      unfold Hid
      omega
    clear HLG
    obtain ⟨a0, a1, -, -, -⟩ := HA.out
    obtain ⟨⟨b0, b1, b2, b3⟩, -, -⟩ := HB.out
    go_wp2_with fail
    clear a0 a1 b0 b1 b2 b3
    refine (awake_true w1).mono ?_
    rintro e w2 ⟨rfl, hE⟩
    have HA2 := Lib.hid (HA.out.ext hE)
    have HB2 := Lib.hid (HB.out.ext hE)
    have HE2 := Lib.hid (Ext.trans HE.out hE)
    clear HA HB HE hE
    have HA := HA2
    clear HA2
    have HB := HB2
    clear HB2
    have HE := HE2
    clear HE2
    obtain ⟨a0, a1, -, -, -⟩ := HA.out
    obtain ⟨⟨b0, b1, b2, b3⟩, -, -⟩ := HB.out
    go_wp2_with fail
    clear a0 a1 b0 b1 b2 b3
    obtain ⟨F, hF1, hF2, hF3⟩ := net_packi b ls n H.out.1 HN.out HI.out.1 HI.out.2
    have HF2 := Lib.hid hF2
    have HF3 := Lib.hid hF3
    have hf := rwnet_any b P n c ls w2 (H.out.ext HE.out) HI.out.1 HI.out.2 (by have := HN.out; omega)
    rw [hF1] at hf
    clear hF1 hF2 hF3
    refine (hf).mono ?_
    rintro e w3 ⟨rfl, hE⟩
    have HA2 := Lib.hid (HA.out.ext hE)
    have HB2 := Lib.hid (HB.out.ext hE)
    have HE2 := Lib.hid (Ext.trans HE.out hE)
    clear HA HB HE hE
    have HA := HA2
    clear HA2
    have HB := HB2
    clear HB2
    have HE := HE2
    clear HE2
    clear hf
    obtain ⟨a0, a1, -, -, -⟩ := HA.out
    obtain ⟨⟨b0, b1, b2, b3⟩, -, -⟩ := HB.out
    go_wp2_with fail
    clear a0 a1 b0 b1 b2 b3
    obtain ⟨NX, hNX⟩ : ∃ x, netR F.data.toList 0 = x := ⟨_, rfl⟩
    have hf := parsenet_any F 0 w3 (by have := HF2.out; unfold maxLen; omega)
    rw [hNX] at hf
    obtain ⟨nc, hnc⟩ : ∃ x, netC b ls = x := ⟨_, rfl⟩
    have HNC := Lib.hid hnc
    have HNX : Hid (NX = if nc = 0 then ⟨b, ls, (F.size : Int), 0⟩ else ⟨0, [], 0, nc⟩) := by unfold Hid; rw [← hNX, HF3.out, hnc]
    clear hNX hnc
    obtain ⟨mb, ml, p, g⟩ := NX
    refine hf.mono ?_
    clear hf
    rintro e w4 ⟨A, c2, rfl, hLM, hE⟩
    simp only at hLM ⊢
    obtain ⟨mn, hmn⟩ : ∃ x, ml.length = x := ⟨_, rfl⟩
    rw [hmn] at hLM ⊢
    have HMN := Lib.hid hmn
    clear hmn
    have HA2 := Lib.hid (HA.out.ext hE)
    have HB2 := Lib.hid (HB.out.ext hE)
    have HE2 := Lib.hid (Ext.trans HE.out hE)
    clear HA HB HE hE
    have HA := HA2
    clear HA2
    have HB := HB2
    clear HB2
    have HE := HE2
    clear HE2
    have hC := Cell2.new w4 _ rfl (.int .i64 mb) (.slice A mn c2) 24
    have hE : Ext w4 (w4.alloc (.cells #[.int .i64 mb, .slice A mn c2] 24)) := Ext.al Ext.rfl' _
    have HLM := Lib.hid (hLM.ext hE)
    clear hLM
    have HA2 := Lib.hid (HA.out.ext hE)
    have HB2 := Lib.hid (HB.out.ext hE)
    have HE2 := Lib.hid (Ext.trans HE.out hE)
    clear HA HB HE hE
    have HA := HA2
    clear HA2
    have HB := HB2
    clear HB2
    have HE := HE2
    clear HE2
    have HC := Lib.hid hC
    clear hC
    have HG : Hid (g = nc ∧ (nc = 0 → b = mb ∧ ls = ml ∧ p = (F.size : Int))) := by
      have h1 := HNX.out
      by_cases h0 : nc = 0
      · rw [if_pos h0] at h1
        injection h1 with h2 h3 h4 h5
        exact ⟨by rw [h5, h0], fun _ => ⟨h2.symm, h3.symm, h4⟩⟩
      · rw [if_neg h0] at h1
        injection h1 with h2 h3 h4 h5
        exact ⟨h5, fun h => absurd h h0⟩
    clear HNX
    obtain rfl := HG.out.1
    have k1 : (g != g) = false := by simp
    have k2 : ((F.size : Int) != (F.size : Int)) = false := by simp
    obtain ⟨a0, a1, -, -, -⟩ := HA.out
    obtain ⟨⟨b0, b1, b2, b3⟩, -, -⟩ := HB.out
    obtain ⟨c0, c1, -, -, -⟩ := HC.out
    go_wp2_with fail
    clear a0 a1 b0 b1 b2 b3 c0 c1
    have hf := ncheck_any b P n c ls (w4.alloc (.cells #[.int .i64 mb, .slice A mn c2] 24)) (H.out.ext HE.out) (by have := HN.out; omega)
    rw [HNC.out] at hf
    have HLM2 := HLM
    clear HLM
    refine hf.mono ?_
    clear hf
    rintro e w5 ⟨rfl, hE⟩
    have HLM := Lib.hid (HLM2.out.ext hE)
    clear HLM2
    have HA2 := Lib.hid (HA.out.ext hE)
    have HB2 := Lib.hid (HB.out.ext hE)
    have HE2 := Lib.hid (Ext.trans HE.out hE)
    have HC2 := Lib.hid (HC.out.ext hE)
    clear HA HB HE HC hE
    have HA := HA2
    clear HA2
    have HB := HB2
    clear HB2
    have HE := HE2
    clear HE2
    have HC := HC2
    clear HC2
    by_cases hc : g = 0
    · subst hc
      obtain ⟨hmb, hml, hp⟩ := HG.out.2 rfl
      subst hmb hml hp
      obtain rfl : mn = n := by rw [← HMN.out]; exact H.out.1
      obtain ⟨a0, a1, -, -, -⟩ := HA.out
      obtain ⟨⟨b0, b1, b2, b3⟩, -, -⟩ := HB.out
      obtain ⟨c0, c1, -, -, -⟩ := HC.out
      go_wp2_with fail
      clear a0 a1 b0 b1 b2 b3 c0 c1
      refine (same_true b A _ c2 P c ls w5 HLM.out (H.out.ext HE.out) (by have := HN.out; omega)).mono ?_
      rintro e w6 ⟨rfl, hE⟩
      have HA2 := Lib.hid (HA.out.ext hE)
      have HB2 := Lib.hid (HB.out.ext hE)
      have HE2 := Lib.hid (Ext.trans HE.out hE)
      have HC2 := Lib.hid (HC.out.ext hE)
      clear HA HB HE HC hE
      have HA := HA2
      clear HA2
      have HB := HB2
      clear HB2
      have HE := HE2
      clear HE2
      have HC := HC2
      clear HC2
      by_cases q1 : kd < 1
      · have r1 : decide (kd < 1) = true := decide_eq_true q1
        clear q1
        obtain ⟨a0, a1, -, -, -⟩ := HA.out
        obtain ⟨⟨b0, b1, b2, b3⟩, -, -⟩ := HB.out
        obtain ⟨c0, c1, -, -, -⟩ := HC.out
        go_wp2_with fail
        go_ret
        exact ⟨rfl, HE.out⟩
      · have r1 : decide (kd < 1) = false := decide_eq_false q1
        by_cases q2 : 3 < kd
        · have r2 : decide (3 < kd) = true := decide_eq_true q2
          clear q1 q2
          obtain ⟨a0, a1, -, -, -⟩ := HA.out
          obtain ⟨⟨b0, b1, b2, b3⟩, -, -⟩ := HB.out
          obtain ⟨c0, c1, -, -, -⟩ := HC.out
          go_wp2_with fail
          go_ret
          exact ⟨rfl, HE.out⟩
        · have r2 : decide (3 < kd) = false := decide_eq_false q2
          have HKD : Hid (kd = 1 ∨ kd = 2 ∨ kd = 3) := by unfold Hid; omega
          clear q1 q2
          obtain ⟨a0, a1, -, -, -⟩ := HA.out
          obtain ⟨⟨b0, b1, b2, b3⟩, -, -⟩ := HB.out
          obtain ⟨c0, c1, -, -, -⟩ := HC.out
          go_wp2_with fail
          clear a0 a1 b0 b1 b2 b3 c0 c1
          obtain ⟨W, hW1, hW2, hW3⟩ := out_packi kd wh fr to_ HKD.out HO.out.1 HO.out.2.1 HO.out.2.2
          have HW1 := Lib.hid hW1
          have HW2 := Lib.hid hW2
          have HW3 := Lib.hid hW3
          clear hW1 hW2 hW3
          obtain ⟨Y, f, hY1, hY2, hY3⟩ : ∃ (Y : ByteArray) (f : Int), bs (outT kd wh fr to_).1 = Y ∧ (outT kd wh fr to_).2 = f ∧ (validO kd wh fr to_ = true ∧ f = 0 ∨ validO kd wh fr to_ = false ∧ f = 1) := by
            refine ⟨_, _, rfl, rfl, ?_⟩
            unfold outT
            rw [if_pos HKD.out]
            cases validO kd wh fr to_
            · exact .inr ⟨rfl, rfl⟩
            · exact .inl ⟨rfl, rfl⟩
          have hf := fmtout_any kd wh fr to_ w6
          rw [hY1, hY2] at hf
          have HY3 := Lib.hid hY3
          clear hY1 hY2 hY3
          refine (hf).mono ?_
          rintro e w7 ⟨rfl, hE⟩
          have HA2 := Lib.hid (HA.out.ext hE)
          have HB2 := Lib.hid (HB.out.ext hE)
          have HE2 := Lib.hid (Ext.trans HE.out hE)
          have HC2 := Lib.hid (HC.out.ext hE)
          clear HA HB HE HC hE
          have HA := HA2
          clear HA2
          have HB := HB2
          clear HB2
          have HE := HE2
          clear HE2
          have HC := HC2
          clear HC2
          clear hf
          obtain ⟨a0, a1, -, -, -⟩ := HA.out
          obtain ⟨⟨b0, b1, b2, b3⟩, -, -⟩ := HB.out
          obtain ⟨c0, c1, -, -, -⟩ := HC.out
          go_wp2_with fail
          clear a0 a1 b0 b1 b2 b3 c0 c1
          have hf := rwout_any kd wh fr to_ w7 HKD.out HO.out.1 HO.out.2.1 HO.out.2.2
          rw [HW1.out] at hf
          refine (hf).mono ?_
          rintro e w8 ⟨rfl, hE⟩
          have HA2 := Lib.hid (HA.out.ext hE)
          have HB2 := Lib.hid (HB.out.ext hE)
          have HE2 := Lib.hid (Ext.trans HE.out hE)
          have HC2 := Lib.hid (HC.out.ext hE)
          clear HA HB HE HC hE
          have HA := HA2
          clear HA2
          have HB := HB2
          clear HB2
          have HE := HE2
          clear HE2
          have HC := HC2
          clear HC2
          clear hf
          rcases HY3.out with ⟨hv, hf0⟩ | ⟨hv, hf0⟩
          · subst hf0
            have HR : Hid (outR W.data.toList 0 = ⟨kd, wh, fr, to_, (W.size : Int), 0⟩) := by unfold Hid; rw [HW3.out, hv]; rfl
            clear hv
            obtain ⟨a0, a1, -, -, -⟩ := HA.out
            obtain ⟨⟨b0, b1, b2, b3⟩, -, -⟩ := HB.out
            obtain ⟨c0, c1, -, -, -⟩ := HC.out
            go_wp2_with fail
            clear a0 a1 b0 b1 b2 b3 c0 c1
            refine (lost_true W 0 kd wh fr to_ (W.size : Int) 0 w8 HR.out (by have := HW2.out; unfold maxLen; omega)).mono ?_
            rintro e w9 ⟨rfl, hE⟩
            have HA2 := Lib.hid (HA.out.ext hE)
            have HB2 := Lib.hid (HB.out.ext hE)
            have HE2 := Lib.hid (Ext.trans HE.out hE)
            have HC2 := Lib.hid (HC.out.ext hE)
            clear HA HB HE HC hE
            have HA := HA2
            clear HA2
            have HB := HB2
            clear HB2
            have HE := HE2
            clear HE2
            have HC := HC2
            clear HC2
            obtain ⟨a0, a1, -, -, -⟩ := HA.out
            obtain ⟨⟨b0, b1, b2, b3⟩, -, -⟩ := HB.out
            obtain ⟨c0, c1, -, -, -⟩ := HC.out
            go_wp2_with fail
            go_ret
            exact ⟨rfl, HE.out⟩
          · subst hf0
            have HR : Hid (outR W.data.toList 0 = ⟨0, 0, 0, 0, 0, 1⟩) := by unfold Hid; rw [HW3.out, hv]; rfl
            clear hv
            obtain ⟨a0, a1, -, -, -⟩ := HA.out
            obtain ⟨⟨b0, b1, b2, b3⟩, -, -⟩ := HB.out
            obtain ⟨c0, c1, -, -, -⟩ := HC.out
            go_wp2_with fail
            clear a0 a1 b0 b1 b2 b3 c0 c1
            refine (lost_true W 0 0 0 0 0 0 1 w8 HR.out (by have := HW2.out; unfold maxLen; omega)).mono ?_
            rintro e w9 ⟨rfl, hE⟩
            have HA2 := Lib.hid (HA.out.ext hE)
            have HB2 := Lib.hid (HB.out.ext hE)
            have HE2 := Lib.hid (Ext.trans HE.out hE)
            have HC2 := Lib.hid (HC.out.ext hE)
            clear HA HB HE HC hE
            have HA := HA2
            clear HA2
            have HB := HB2
            clear HB2
            have HE := HE2
            clear HE2
            have HC := HC2
            clear HC2
            obtain ⟨a0, a1, -, -, -⟩ := HA.out
            obtain ⟨⟨b0, b1, b2, b3⟩, -, -⟩ := HB.out
            obtain ⟨c0, c1, -, -, -⟩ := HC.out
            go_wp2_with fail
            go_ret
            exact ⟨rfl, HE.out⟩
    · have n1 : (g == 0) = false := by simp [hc]
      clear hc
      by_cases q1 : kd < 1
      · have r1 : decide (kd < 1) = true := decide_eq_true q1
        clear q1
        obtain ⟨a0, a1, -, -, -⟩ := HA.out
        obtain ⟨⟨b0, b1, b2, b3⟩, -, -⟩ := HB.out
        obtain ⟨c0, c1, -, -, -⟩ := HC.out
        go_wp2_with fail
        go_ret
        exact ⟨rfl, HE.out⟩
      · have r1 : decide (kd < 1) = false := decide_eq_false q1
        by_cases q2 : 3 < kd
        · have r2 : decide (3 < kd) = true := decide_eq_true q2
          clear q1 q2
          obtain ⟨a0, a1, -, -, -⟩ := HA.out
          obtain ⟨⟨b0, b1, b2, b3⟩, -, -⟩ := HB.out
          obtain ⟨c0, c1, -, -, -⟩ := HC.out
          go_wp2_with fail
          go_ret
          exact ⟨rfl, HE.out⟩
        · have r2 : decide (3 < kd) = false := decide_eq_false q2
          have HKD : Hid (kd = 1 ∨ kd = 2 ∨ kd = 3) := by unfold Hid; omega
          clear q1 q2
          obtain ⟨a0, a1, -, -, -⟩ := HA.out
          obtain ⟨⟨b0, b1, b2, b3⟩, -, -⟩ := HB.out
          obtain ⟨c0, c1, -, -, -⟩ := HC.out
          go_wp2_with fail
          clear a0 a1 b0 b1 b2 b3 c0 c1
          obtain ⟨W, hW1, hW2, hW3⟩ := out_packi kd wh fr to_ HKD.out HO.out.1 HO.out.2.1 HO.out.2.2
          have HW1 := Lib.hid hW1
          have HW2 := Lib.hid hW2
          have HW3 := Lib.hid hW3
          clear hW1 hW2 hW3
          obtain ⟨Y, f, hY1, hY2, hY3⟩ : ∃ (Y : ByteArray) (f : Int), bs (outT kd wh fr to_).1 = Y ∧ (outT kd wh fr to_).2 = f ∧ (validO kd wh fr to_ = true ∧ f = 0 ∨ validO kd wh fr to_ = false ∧ f = 1) := by
            refine ⟨_, _, rfl, rfl, ?_⟩
            unfold outT
            rw [if_pos HKD.out]
            cases validO kd wh fr to_
            · exact .inr ⟨rfl, rfl⟩
            · exact .inl ⟨rfl, rfl⟩
          have hf := fmtout_any kd wh fr to_ w5
          rw [hY1, hY2] at hf
          have HY3 := Lib.hid hY3
          clear hY1 hY2 hY3
          refine (hf).mono ?_
          rintro e w6 ⟨rfl, hE⟩
          have HA2 := Lib.hid (HA.out.ext hE)
          have HB2 := Lib.hid (HB.out.ext hE)
          have HE2 := Lib.hid (Ext.trans HE.out hE)
          have HC2 := Lib.hid (HC.out.ext hE)
          clear HA HB HE HC hE
          have HA := HA2
          clear HA2
          have HB := HB2
          clear HB2
          have HE := HE2
          clear HE2
          have HC := HC2
          clear HC2
          clear hf
          obtain ⟨a0, a1, -, -, -⟩ := HA.out
          obtain ⟨⟨b0, b1, b2, b3⟩, -, -⟩ := HB.out
          obtain ⟨c0, c1, -, -, -⟩ := HC.out
          go_wp2_with fail
          clear a0 a1 b0 b1 b2 b3 c0 c1
          have hf := rwout_any kd wh fr to_ w6 HKD.out HO.out.1 HO.out.2.1 HO.out.2.2
          rw [HW1.out] at hf
          refine (hf).mono ?_
          rintro e w7 ⟨rfl, hE⟩
          have HA2 := Lib.hid (HA.out.ext hE)
          have HB2 := Lib.hid (HB.out.ext hE)
          have HE2 := Lib.hid (Ext.trans HE.out hE)
          have HC2 := Lib.hid (HC.out.ext hE)
          clear HA HB HE HC hE
          have HA := HA2
          clear HA2
          have HB := HB2
          clear HB2
          have HE := HE2
          clear HE2
          have HC := HC2
          clear HC2
          clear hf
          rcases HY3.out with ⟨hv, hf0⟩ | ⟨hv, hf0⟩
          · subst hf0
            have HR : Hid (outR W.data.toList 0 = ⟨kd, wh, fr, to_, (W.size : Int), 0⟩) := by unfold Hid; rw [HW3.out, hv]; rfl
            clear hv
            obtain ⟨a0, a1, -, -, -⟩ := HA.out
            obtain ⟨⟨b0, b1, b2, b3⟩, -, -⟩ := HB.out
            obtain ⟨c0, c1, -, -, -⟩ := HC.out
            go_wp2_with fail
            clear a0 a1 b0 b1 b2 b3 c0 c1
            refine (lost_true W 0 kd wh fr to_ (W.size : Int) 0 w7 HR.out (by have := HW2.out; unfold maxLen; omega)).mono ?_
            rintro e w8 ⟨rfl, hE⟩
            have HA2 := Lib.hid (HA.out.ext hE)
            have HB2 := Lib.hid (HB.out.ext hE)
            have HE2 := Lib.hid (Ext.trans HE.out hE)
            have HC2 := Lib.hid (HC.out.ext hE)
            clear HA HB HE HC hE
            have HA := HA2
            clear HA2
            have HB := HB2
            clear HB2
            have HE := HE2
            clear HE2
            have HC := HC2
            clear HC2
            obtain ⟨a0, a1, -, -, -⟩ := HA.out
            obtain ⟨⟨b0, b1, b2, b3⟩, -, -⟩ := HB.out
            obtain ⟨c0, c1, -, -, -⟩ := HC.out
            go_wp2_with fail
            go_ret
            exact ⟨rfl, HE.out⟩
          · subst hf0
            have HR : Hid (outR W.data.toList 0 = ⟨0, 0, 0, 0, 0, 1⟩) := by unfold Hid; rw [HW3.out, hv]; rfl
            clear hv
            obtain ⟨a0, a1, -, -, -⟩ := HA.out
            obtain ⟨⟨b0, b1, b2, b3⟩, -, -⟩ := HB.out
            obtain ⟨c0, c1, -, -, -⟩ := HC.out
            go_wp2_with fail
            clear a0 a1 b0 b1 b2 b3 c0 c1
            refine (lost_true W 0 0 0 0 0 0 1 w7 HR.out (by have := HW2.out; unfold maxLen; omega)).mono ?_
            rintro e w8 ⟨rfl, hE⟩
            have HA2 := Lib.hid (HA.out.ext hE)
            have HB2 := Lib.hid (HB.out.ext hE)
            have HE2 := Lib.hid (Ext.trans HE.out hE)
            have HC2 := Lib.hid (HC.out.ext hE)
            clear HA HB HE HC hE
            have HA := HA2
            clear HA2
            have HB := HB2
            clear HB2
            have HE := HE2
            clear HE2
            have HC := HC2
            clear HC2
            obtain ⟨a0, a1, -, -, -⟩ := HA.out
            obtain ⟨⟨b0, b1, b2, b3⟩, -, -⟩ := HB.out
            obtain ⟨c0, c1, -, -, -⟩ := HC.out
            go_wp2_with fail
            go_ret
            exact ⟨rfl, HE.out⟩
end Go.Proofs.YtnofbjcikfofgaaGreat
