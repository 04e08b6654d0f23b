/- The contracts of bidtext's numbers and format. Printed by gen_btf.py. The contracts of bidtext's FormatUnit and FormatBid. Printed by gen_btm.py. The functions of the Bidtext laws: Same, SameBid, unit, bid, Long, ex, exBid, awake. Printed by gen_btlaw.py. A unit in memory; formatted units and bids are read back. Printed by gen_btx.py. -/
import Derived.Test.YtkdbpcenehhopaaBtPa
import Derived.Test.YtkdbpcenehhopaaTxA
namespace Go.Proofs.Ytkdbpcenehhopaa
open Go.RowKit
theorem Touch.grown {r : Nat} {w w' : World} (ht : Touch r w w') : w.grownBy w' (some r) := ⟨ht.io.1, ht.io.2.1, ht.io.2.2, by rw [ht.size]; exact Nat.le_refl _, fun k _ hn => ht.block k (fun e => hn (by rw [e]))⟩
/-- A row of tokens that was made: n places, k of them filled. -/
structure NumR (w : World) (r n : Nat) (ts : List Tok) (cs : List Value) : Prop where
  room : RowN w r (n * 6)
  toks : TokCs w r (some r) ts cs
  at_ : ∀ j u, cs[j]? = some u → w.cell? ⟨r, j, none⟩ = some u
theorem NumR.ext {w w' : World} {r n : Nat} {ts : List Tok} {cs : List Value} (h : NumR w r n ts cs) (hE : Ext w w') : NumR w' r n ts cs :=
  ⟨h.room.ext hE, h.toks.turn hE (Nat.le_refl _) (fun _ _ _ h => h), fun j u hj => Ext.cellOf hE (h.at_ j u hj)⟩
set_option maxRecDepth 100000 in
set_option maxHeartbeats 16000000 in
theorem bnumbers_any (P : Option Addr) (n c : Nat) (zs : List Int) (w : World) (h : IntsAt w P n zs) (hz : ∀ i, i < n → I64r (zs.getD i 0)) (hn : n ≤ 1000) :
    Calls Try.prog 19 #[.slice P n c] w fun e w' => (∃ cs, e = .returned (.slice (some ⟨w.heap.size, 0, none⟩) n n) ∧ NumR w' w.heap.size n (zs.map numT) cs) ∧ Ext w w' := by
  have H := Lib.hid h
  have HLN := Lib.hid h.1
  have HZ := Lib.hid hz
  clear h hz
  go_enter Try.func19, Try.ntmps19
  go_wp2_with (
    refine wpList_makeV rfl 52 75 _ _ rfl (.agg #[.int .u8 0, .string ⟨#[]⟩, .bool false, .slice none 0 0, .bool false, .slice none 0 0]) 6 88 Try.underlying52 info_tok (n : Int) n rfl rfl rfl (by omega) (by omega) ?_
    intro wM hO
    have hrn : RowN wM w.heap.size (n * 6) := by rw [← hO]; exact rowN_made w (n * 6) _ _
    have hE : Ext w wM := by rw [← hO]; exact Ext.al Ext.rfl' _
    clear hO
    have HRN := Lib.hid hrn
    have HE := Lib.hid hE
    clear hrn hE)
  obtain ⟨r, hr⟩ : ∃ r, w.heap.size = r := ⟨_, rfl⟩
  rw [hr] at HRN ⊢
  have HRR := Lib.hid hr
  clear hr
  go_loopw [11] (fun i wr => ∃ (k : Nat) (cs : List Value), k ≤ n ∧ i = .int .i64 (k : Int) ∧ Hid (NumR wr r n ((zs.take k).map numT) cs) ∧ Hid (Ext w wr)) (fun i _ => n - (intOf i).toNat)
  case atStart => exact ⟨0, [], by omega, rfl, ⟨HRN.out, rfl, fun j u hj => by simp at hj⟩, HE⟩
  case round =>
    obtain ⟨k, cs, hk, rfl, HN, HE⟩ := hrel
    by_cases hlt : k < n
    · have hbv : decide ((k : Int) < (n : Int)) = true := by simp; omega
      have hbv2 : decide (k < n) = true := by simp; omega
      have hz0' : (0 : Int) ≤ (k : Int) := by omega
      have hzn : (k : Int) < (n : Int) := by omega
      obtain ⟨b, off, rfl, hblt, hcs⟩ := (H.out.ext HE.out).2 (by omega)
      have hc := hcs k hlt
      have hzr := HZ.out k hlt
      have htk : (zs.take (k + 1)).map numT = (zs.take k).map numT ++ [numT (zs.getD k 0)] := by
        have hkl : k < zs.length := by rw [HLN.out]; exact hlt
        rw [List.take_succ_eq_append_getElem hkl, List.map_append]
        simp [List.getD, List.getElem?_eq_getElem hkl]
      obtain ⟨z, hz⟩ : ∃ z, zs.getD k 0 = z := ⟨_, rfl⟩
      rw [hz] at hc hzr htk
      have HTK := Lib.hid htk
      have HZK := Lib.hid hzr
      clear hz hcs htk hzr
      go_wp2_with fail
      refine (qfrom_any z wr HZK.out).mono ?_
      rintro e w1 ⟨s, A, nn, cc, s', A', n', c', rfl, hq, hE⟩
      clear hc
      have hn1 : nn ≤ 1000 := Nat.le_trans (i64_words (show I64r ((z : Rat).num) from by rw [Rat.num_intCast]; exact HZK.out) hq.1) (by omega)
      have hn2 : n' ≤ 1000 := Nat.le_trans (i64_words (show I64r (denOf (z : Rat)) from by simp [denOf, I64r]) hq.2) (by omega)
      have hrl : r < wr.heap.size := HN.out.room.1
      have hTC : TokC w1 r (some r) (numT z) [.int .u8 4, .string ⟨#[]⟩, .bool s, .slice A nn cc, .bool s', .slice A' n' c'] := by
        refine ⟨s, A, nn, cc, s', A', n', c', rfl, ⟨⟨hq.1.lite, hq.2.lite⟩, hn1, hn2⟩, ?_, ?_⟩
        · intro _ ad e
          obtain ⟨b2, o2, e2, h1, h2, _⟩ := hq.1.2.2.2.2 ad e
          rw [e2]
          exact ⟨by show r ≤ b2; omega, by show b2 < _; omega, by intro e3; injection e3 with e3; simp at e3; omega⟩
        · intro _ ad e
          obtain ⟨b2, o2, e2, h1, h2, _⟩ := hq.2.2.2.2.2 ad e
          rw [e2]
          exact ⟨by show r ≤ b2; omega, by show b2 < _; omega, by intro e3; injection e3 with e3; simp at e3; omega⟩
      have HTC := Lib.hid hTC
      have HN1 := Lib.hid (HN.out.ext hE)
      have HE1 := Lib.hid (Ext.trans HE.out hE)
      have HTH := Lib.hid (HN1.out.room.there (o := k * 6) (k := 6) (by omega))
      have HLC : Hid (cs.length = k * 6) := by unfold Hid; rw [HN1.out.toks.len, List.length_map, List.length_take, HLN.out]; congr 1; omega
      clear hTC hE hq HN hn1 hn2 hrl
      go_wp2_with (
        refine wpList_storeV rfl 75 _ _ rfl r (k * 6) [.int .u8 4, .string ⟨#[]⟩, .bool s, .slice A nn cc, .bool s', .slice A' n' c'] rfl rfl HTH.out (by kernel_rfl) rfl ?_
        intro w2 hp
        have HP := Lib.hid hp
        clear hp)
      go_roundw
      case rel =>
        refine ⟨k + 1, cs ++ [.int .u8 4, .string ⟨#[]⟩, .bool s, .slice A nn cc, .bool s', .slice A' n' c'], by omega, by go_num, ⟨HN1.out.room.putVs HP.out, ?_, ?_⟩, ?_⟩
        · rw [HTK.out]
          exact TokCs.append (TokCs.grown HP.out.touch.grown (Nat.le_refl _) (fun _ _ _ h => h) HN1.out.toks) ⟨_, [], rfl, HTC.out.grown HP.out.touch.grown (Nat.le_refl _) (fun _ _ _ h => h), rfl⟩
        · intro j u hj
          by_cases hjl : j < k * 6
          · rw [List.getElem?_append_left (by rw [HLC.out]; exact hjl)] at hj
            rw [HP.out.far j (.inl hjl)]
            exact HN1.out.at_ j u hj
          · rw [List.getElem?_append_right (by rw [HLC.out]; omega), HLC.out] at hj
            have := HP.out.here (j - k * 6) u hj
            rw [show k * 6 + (j - k * 6) = j by omega] at this
            exact this
        · exact HP.out.touch.ext w HE1.out (by rw [HRR.out]; exact Nat.le_refl _)
      case measure => simp [intOf]; omega
    · obtain rfl : k = n := by omega
      have hbv : decide ((k : Int) < (k : Int)) = false := by simp
      have hbv2 : decide (k < k) = false := by simp
      go_wp2_with fail
      go_ret
      refine ⟨⟨cs, by rw [HRR.out]; rfl, ?_⟩, HE.out⟩
      rw [HRR.out]
      have := HN.out
      rw [List.take_of_length_le (by rw [HLN.out]; exact Nat.le_refl _)] at this
      exact this
/-- append of tokens to a row of tokens; where the row lies. -/
theorem wpList_append_toks2 (w : World) {ops : Array Oper} {rest : List Oper} {o : Oper} {a : Act} {Q : Exit → Act → World → Prop} (hgd : o.guard = none) (s x : Operand)
    (ho : o.op = .call { callee := .builtin .append, args := #[s, x], argTypes := #[52, 52] })
    (B n m : Nat) (v : Value) (ts us : List Tok) (news : List Value) (hs : a.eval s = v) (hr : RowT w B v ts) (hn : ts.length = n) (ad : Addr) (c : Nat) (hx : a.eval x = .slice (some ad) m c) (hm : us.length = m)
    (hnews : ∀ j u, news[j]? = some u → w.cell? (ad.add j) = some u) (htc : TokCs w B v.ownBlock us news) (h0 : 0 < m) (hl : n + m ≤ 100000) (hB : B ≤ w.heap.size)
    (h : ∀ g cap w', RowT w' B (.slice (some ⟨g, 0, none⟩) (n + m) cap) (ts ++ us) → w.grownBy w' v.ownBlock → (v.ownBlock = some g ∨ g = w.heap.size) → wpList Try.prog ops Q rest (a.put o.dst (.slice (some ⟨g, 0, none⟩) (n + m) cap)) w') :
    wpList Try.prog ops Q (o :: rest) a w := by
  obtain ⟨i0, hi, hz0, hz1, hz2⟩ := info_parts info_tok
  subst hn hm
  obtain ⟨cs, hown, hts⟩ := hr
  refine wpList_append_atW w hgd s x 52 ho B 75 i0 _ 6 88 Try.underlying52 hi hz0 hz1 hz2 rfl (by omega) v ts.length cs hs hown ad us.length c news hx htc.len hnews htc.one (.inr h0) (by unfold maxLen; omega) (by omega) hB ?_
  intro g cap w' h1 h2 h3
  exact h g cap w' (RowT.grow hts htc h1 h2 h3) h2 h3
/-- Nothing that was there has changed, but a row that lies behind D. -/
theorem row_ext {w0 w w' : World} {D g : Nat} (h0 : Ext w0 w) (hg : w.grownBy w' (some g)) (hD : w0.heap.size ≤ D) (h : D ≤ g) : Ext w0 w' := ext_grownW h0 hg fun x e => by cases e; omega
theorem hat_ge {D g g' n c s : Nat} (hat : (Value.slice (some ⟨g, 0, none⟩) n c).ownBlock = some g' ∨ g' = s) (h1 : D ≤ g) (h2 : D ≤ s) : D ≤ g' := by
  rcases hat with h | h
  · have h' : some g = some g' := h
    injection h' with h'
    omega
  · omega
theorem news_add {w : World} {r : Nat} {cs : List Value} (h : ∀ j u, cs[j]? = some u → w.cell? ⟨r, j, none⟩ = some u) : ∀ j u, cs[j]? = some u → w.cell? ((⟨r, 0, none⟩ : Addr).add j) = some u := fun j u hj => by
  have hadd : (⟨r, 0, none⟩ : Addr).add j = ⟨r, j, none⟩ := by by_cases h : j = 0 <;> simp [Addr.add, h]
  rw [hadd]
  exact h j u hj
theorem rowT_lt {w : World} {B n c g : Nat} {ts : List Tok} (h : RowT w B (.slice (some ⟨g, 0, none⟩) n c) ts) : g < w.heap.size := by
  obtain ⟨cs, ho, _⟩ := h
  exact (own_lt ho (g := g) rfl).1
theorem stTok_take {xs : List (Int × Int)} {k : Nat} (h : k < xs.length) : (xs.take (k + 1)).flatMap stTok = (xs.take k).flatMap stTok ++ stTok (xs.getD k (0, 0)) := by
  rw [List.take_succ_eq_append_getElem h, List.flatMap_append]
  simp [List.getD, List.getElem?_eq_getElem h]
set_option maxRecDepth 100000 in
set_option maxHeartbeats 32000000 in
theorem bformat_any (W : ByteArray) (r m : Nat) (us : List Tok) (fs : List Value) (A : Option Addr) (n c : Nat) (xs : List (Int × Int)) (w : World) (_hW : allC isLow W.data.toList = true) (hf : NumR w r m us fs) (hm : us.length = m) (hm0 : 0 < m) (hm9 : m ≤ 1000) (hs : StepsAt w A n xs) (hi : ∀ x ∈ xs, I64r x.1 ∧ I64r x.2) (hn : n ≤ 100) (hg : ∀ t ∈ tokO :: tokW W.data.toList :: (us ++ stepsToks xs), GoodT t ∧ (pieceT t).length ≤ 20) :
    Calls Try.prog 20 #[.string W, .slice (some ⟨r, 0, none⟩) m m, .slice A n c] w fun e w' => e = .returned (.tuple #[.string (bs (fmtT (tokO :: tokW W.data.toList :: (us ++ stepsToks xs)))), .int .i64 0]) ∧ Ext w w' := by
  have HF := Lib.hid hf
  have HS := Lib.hid hs
  have HLN := Lib.hid hs.1
  have HI := Lib.hid hi
  have HG := Lib.hid hg
  have HM := Lib.hid hm
  clear hf hs hi hg _hW hm
  go_enter Try.func20, Try.ntmps20
  have hO : (w.alloc (.cells #[.int .u8 1, .string ⟨#[]⟩, .bool false, .slice none 0 0, .bool false, .slice none 0 0, .int .u8 3, .string W, .bool false, .slice none 0 0, .bool false, .slice none 0 0] 75)).ownsRow r 75 6 (.slice (some ⟨w.heap.size, 0, none⟩) 2 2) 2 [.int .u8 1, .string ⟨#[]⟩, .bool false, .slice none 0 0, .bool false, .slice none 0 0, .int .u8 3, .string W, .bool false, .slice none 0 0, .bool false, .slice none 0 0] := World.ownsRow_lit (base := r) (e := 75) (size := 6) w #[.int .u8 1, .string ⟨#[]⟩, .bool false, .slice none 0 0, .bool false, .slice none 0 0, .int .u8 3, .string W, .bool false, .slice none 0 0, .bool false, .slice none 0 0] 2 (Nat.le_of_lt HF.out.room.1) (by unfold maxLen; omega) rfl
  have hT : TokCs (w.alloc (.cells #[.int .u8 1, .string ⟨#[]⟩, .bool false, .slice none 0 0, .bool false, .slice none 0 0, .int .u8 3, .string W, .bool false, .slice none 0 0, .bool false, .slice none 0 0] 75)) r (some w.heap.size) [tokO, tokW W.data.toList] [.int .u8 1, .string ⟨#[]⟩, .bool false, .slice none 0 0, .bool false, .slice none 0 0, .int .u8 3, .string W, .bool false, .slice none 0 0, .bool false, .slice none 0 0] := by
    refine ⟨[.int .u8 1, .string ⟨#[]⟩, .bool false, .slice none 0 0, .bool false, .slice none 0 0], [.int .u8 3, .string W, .bool false, .slice none 0 0, .bool false, .slice none 0 0], rfl, tokc_plain _ _ _ 1 [], [.int .u8 3, .string W, .bool false, .slice none 0 0, .bool false, .slice none 0 0], [], rfl, ?_, rfl⟩
    have := tokc_plain (w.alloc (.cells #[.int .u8 1, .string ⟨#[]⟩, .bool false, .slice none 0 0, .bool false, .slice none 0 0, .int .u8 3, .string W, .bool false, .slice none 0 0, .bool false, .slice none 0 0] 75)) r (some w.heap.size) 3 W.data.toList
    rw [bs_self] at this
    exact this
  have HROW : Hid (RowT (w.alloc (.cells #[.int .u8 1, .string ⟨#[]⟩, .bool false, .slice none 0 0, .bool false, .slice none 0 0, .int .u8 3, .string W, .bool false, .slice none 0 0, .bool false, .slice none 0 0] 75)) r (.slice (some ⟨w.heap.size, 0, none⟩) 2 2) [tokO, tokW W.data.toList]) := ⟨_, hO, hT⟩
  have HE0 : Hid (Ext w (w.alloc (.cells #[.int .u8 1, .string ⟨#[]⟩, .bool false, .slice none 0 0, .bool false, .slice none 0 0, .int .u8 3, .string W, .bool false, .slice none 0 0, .bool false, .slice none 0 0] 75))) := Ext.al Ext.rfl' _
  have HSZ0 : Hid (r ≤ (w.alloc (.cells #[.int .u8 1, .string ⟨#[]⟩, .bool false, .slice none 0 0, .bool false, .slice none 0 0, .int .u8 3, .string W, .bool false, .slice none 0 0, .bool false, .slice none 0 0] 75)).heap.size) := Nat.le_trans (Nat.le_of_lt HF.out.room.1) HE0.out.size
  have HF0 := Lib.hid (HF.out.ext HE0.out)
  have HFT : Hid (TokCs (w.alloc (.cells #[.int .u8 1, .string ⟨#[]⟩, .bool false, .slice none 0 0, .bool false, .slice none 0 0, .int .u8 3, .string W, .bool false, .slice none 0 0, .bool false, .slice none 0 0] 75)) r (some w.heap.size) us fs) := TokCs.grown (grown_ext HE0.out (some r)) (Nat.le_refl _) (fun x _ hx _ e => by
    injection e with e
    omega) HF.out.toks
  have HU : Hid (us.length = m) := HM.out
  clear hO hT
  go_wp2_with (
    at_builtin
    refine wpList_append_toks2 _ rfl (.tmp 15) (.tmp 16) rfl r 2 m (.slice (some ⟨w.heap.size, 0, none⟩) 2 2) [tokO, tokW W.data.toList] us fs rfl HROW.out rfl ⟨r, 0, none⟩ m rfl HM.out (news_add HF0.out.at_) HFT.out hm0 (by omega) HSZ0.out ?_
    intro g cap w1 hr1 hg1 hat
    have HR1 := Lib.hid hr1
    have HG1 : Hid (w.heap.size ≤ g) := hat_ge hat (Nat.le_refl _) HE0.out.size
    have HE1 : Hid (Ext w w1) := row_ext HE0.out hg1 (Nat.le_refl _) (Nat.le_refl _)
    have HZ1 : Hid (r ≤ w1.heap.size) := Nat.le_trans HSZ0.out hg1.size
    clear hr1 hg1 hat)
  clear HROW HE0 HSZ0 HF0 HFT
  obtain ⟨D, hD⟩ : ∃ D, w.heap.size = D := ⟨_, rfl⟩
  rw [hD] at HG1
  have HD := Lib.hid hD
  clear hD
  go_loopw [8, 20] (fun v i wr => ∃ (k cap g : Nat), k ≤ n ∧ i = .int .i64 (k : Int) ∧ v = .slice (some ⟨g, 0, none⟩) (2 + m + k * 4) cap ∧ Hid (RowT wr r (.slice (some ⟨g, 0, none⟩) (2 + m + k * 4) cap) (tokO :: tokW W.data.toList :: us ++ (xs.take k).flatMap stTok)) ∧ Hid (D ≤ g) ∧ Hid (Ext w wr) ∧ Hid (r ≤ wr.heap.size)) (fun _ i _ => n - (intOf i).toNat)
  case atStart => exact ⟨0, cap, g, by omega, rfl, rfl, by have := HR1.out; simpa [Hid] using this, HG1, HE1, HZ1⟩
  case round =>
    obtain ⟨k, cap, g, hk, rfl, rfl, HROW, HGD, HE, HZ⟩ := hrel
    by_cases hlt : k < n
    · have hbv : decide ((k : Int) < (n : Int)) = true := by simp; omega
      have hbv2 : decide (k < n) = true := by simp; omega
      have hz0 : (0 : Int) ≤ (k : Int) := by omega
      have hzn : (k : Int) < (n : Int) := by omega
      have HST := Lib.hid (stTok_take (xs := xs) (k := k) (by rw [HLN.out]; exact hlt))
      have HIK := Lib.hid (HI.out (xs.getD k (0, 0)) (by
        have hk2 : k < xs.length := by rw [HLN.out]; exact hlt
        rw [show xs.getD k (0, 0) = xs[k] by simp [List.getD, List.getElem?_eq_getElem hk2]]
        exact List.getElem_mem hk2))
      obtain ⟨sb, so, rfl, hsb, hsc⟩ := (HS.out.below HE.out).2 (by omega)
      obtain ⟨y0, y1⟩ := hsc k hlt
      obtain ⟨⟨q, p⟩, hx⟩ : ∃ x, xs.getD k (0, 0) = x := ⟨_, rfl⟩
      rw [hx] at y0 y1 HST HIK
      simp only at y0 y1 HIK
      clear hx hsc
      have HC := Lib.hid (Cell2.new wr _ rfl (.int .i64 q) (.int .i64 p) 40)
      have hE1 : Ext wr (wr.alloc (.cells #[.int .i64 q, .int .i64 p] 40)) := Ext.al Ext.rfl' _
      have hE2 : Ext wr ((wr.alloc (.cells #[.int .i64 q, .int .i64 p] 40)).alloc (.cells #[.int .u8 1, .string ⟨#[]⟩, .bool false, .slice none 0 0, .bool false, .slice none 0 0] 75)) := Ext.al hE1 _
      have HE2 := Lib.hid (Ext.trans HE.out hE2)
      have HC2 := Lib.hid (HC.out.ext (show Ext (wr.alloc (.cells #[.int .i64 q, .int .i64 p] 40)) ((wr.alloc (.cells #[.int .i64 q, .int .i64 p] 40)).alloc (.cells #[.int .u8 1, .string ⟨#[]⟩, .bool false, .slice none 0 0, .bool false, .slice none 0 0] 75)) from Ext.al Ext.rfl' _))
      have HROW2 := Lib.hid (HROW.out.ext hE2)
      have HZ2 : Hid (r ≤ ((wr.alloc (.cells #[.int .i64 q, .int .i64 p] 40)).alloc (.cells #[.int .u8 1, .string ⟨#[]⟩, .bool false, .slice none 0 0, .bool false, .slice none 0 0] 75)).heap.size) := Nat.le_trans HZ.out hE2.size
      have hsz1 : (wr.alloc (.cells #[.int .i64 q, .int .i64 p] 40)).heap.size = wr.heap.size + 1 := by simp
      have hnw := World.news_of_block (cs := #[.int .u8 1, .string ⟨#[]⟩, .bool false, .slice none 0 0, .bool false, .slice none 0 0]) (t := 75) (fr := (0, 0)) (heap_alloc_new (wr.alloc (.cells #[.int .i64 q, .int .i64 p] 40)) (.cells #[.int .u8 1, .string ⟨#[]⟩, .bool false, .slice none 0 0, .bool false, .slice none 0 0] 75))
      rw [hsz1] at hnw
      have HNW := Lib.hid hnw
      have HGL := Lib.hid (rowT_lt HROW.out)
      have HLEN : Hid ((tokO :: tokW W.data.toList :: us ++ (xs.take k).flatMap stTok).length = 2 + m + k * 4) := by
        unfold Hid
        simp only [List.length_cons, List.length_append, stToks_len, List.length_take, HU.out, HLN.out]
        omega
      have hk9 : 2 + m + k * 4 ≤ 2000 := by omega
      clear hE1 hE2 hsz1 hnw
      go_wp2_with (
        at_builtin
        first
        | refine wpList_append_toks2 _ rfl (.tmp 24) (.tmp 26) rfl r (2 + m + k * 4) 1 (.slice (some ⟨g, 0, none⟩) (2 + m + k * 4) cap) (tokO :: tokW W.data.toList :: us ++ (xs.take k).flatMap stTok) [tokO] [.int .u8 1, .string ⟨#[]⟩, .bool false, .slice none 0 0, .bool false, .slice none 0 0] rfl HROW2.out HLEN.out ⟨wr.heap.size + 1, 0, none⟩ 1 rfl rfl HNW.out ⟨_, [], rfl, tokc_plain _ _ _ 1 [], rfl⟩ (by omega) (by omega) HZ2.out ?_
          intro g3 cap3 w3 hr3 hg3 hat
          have HR3 := Lib.hid hr3
          have HG3 : Hid (D ≤ g3) := hat_ge hat HGD.out (by have := HE2.out.size; have := HD.out; omega)
          have HE3 : Hid (Ext w w3) := row_ext HE2.out hg3 (Nat.le_of_eq HD.out) HGD.out
          have HZ3 : Hid (r ≤ w3.heap.size) := Nat.le_trans HZ2.out hg3.size
          have HL3 : Hid (((tokO :: tokW W.data.toList :: us ++ (xs.take k).flatMap stTok) ++ [tokO]).length = 2 + m + k * 4 + 1) := by unfold Hid; rw [List.length_append, HLEN.out]; rfl
          obtain ⟨c0, c1, -, -, -⟩ := HC2.out
          have d0 := World.grownBy.cell hg3 c0 (fun e => by injection e with e; have := HGL.out; simp at e; omega)
          have d1 := World.grownBy.cell hg3 c1 (fun e => by injection e with e; have := HGL.out; simp at e; omega)
          clear hr3 hg3 hat c0 c1
        | skip)
      have hI := ints_lit w3 #[.int .i64 q, .int .i64 p] 2 [q, p] rfl
      have hz : ∀ i, i < 2 → I64r (([q, p] : List Int).getD i 0) := fun i hi => by
        match i, hi with
        | 0, _ => exact HIK.out.1
        | 1, _ => exact HIK.out.2
      refine (bnumbers_any _ 2 _ [q, p] _ hI hz (by omega)).mono ?_
      clear hI hz
      rintro e w4 ⟨⟨cs4, rfl, hN⟩, hE⟩
      have hEi : Ext w3 (w3.alloc (.cells #[.int .i64 q, .int .i64 p] 2)) := Ext.al Ext.rfl' _
      have hE4 := Ext.trans hEi hE
      have HSI := Lib.hid hEi.size
      obtain ⟨r4, hr4⟩ : ∃ x, (w3.alloc (.cells #[.int .i64 q, .int .i64 p] 2)).heap.size = x := ⟨_, rfl⟩
      rw [hr4] at hN HSI ⊢
      have HN4 := Lib.hid hN
      have HG4 := Lib.hid (rowT_lt HR3.out)
      have HT4 : Hid (TokCs w4 r (some g3) [numT q, numT p] cs4) := TokCs.grown (World.grownBy.refl w4 _) (by have := HZ3.out; have := HSI.out; omega) (fun x hx _ _ e => by
        injection e with e
        have := HG4.out
        have := HSI.out
        omega) hN.toks
      have HR4 := Lib.hid (HR3.out.ext hE4)
      have HE4 := Lib.hid (Ext.trans HE3.out hE4)
      have HZ4 : Hid (r ≤ w4.heap.size) := Nat.le_trans HZ3.out hE4.size
      clear hN hE hEi hE4 hr4 d0 d1
      go_wp2_with (
        at_builtin
        first
        | refine wpList_append_toks2 _ rfl (.tmp 28) (.tmp 34) rfl r (2 + m + k * 4 + 1) 2 (.slice (some ⟨g3, 0, none⟩) (2 + m + k * 4 + 1) cap3) ((tokO :: tokW W.data.toList :: us ++ (xs.take k).flatMap stTok) ++ [tokO]) [numT q, numT p] cs4 rfl HR4.out HL3.out ⟨r4, 0, none⟩ 2 rfl rfl (news_add HN4.out.at_) HT4.out (by omega) (by omega) HZ4.out ?_
          intro g5 cap5 w5 hr5 hg5 hat
          have HR5 := Lib.hid (hr5.ext (Ext.al (Ext.rfl' (w := w5)) (.cells #[.int .u8 2, .string ⟨#[]⟩, .bool false, .slice none 0 0, .bool false, .slice none 0 0] 75)))
          have HG5 : Hid (D ≤ g5) := hat_ge hat HG3.out (by have := HE4.out.size; have := HD.out; omega)
          have HE5 : Hid (Ext w (w5.alloc (.cells #[.int .u8 2, .string ⟨#[]⟩, .bool false, .slice none 0 0, .bool false, .slice none 0 0] 75))) := Ext.trans (row_ext HE4.out hg5 (Nat.le_of_eq HD.out) HG3.out) (Ext.al Ext.rfl' _)
          have HZ5 : Hid (r ≤ (w5.alloc (.cells #[.int .u8 2, .string ⟨#[]⟩, .bool false, .slice none 0 0, .bool false, .slice none 0 0] 75)).heap.size) := Nat.le_trans (Nat.le_trans HZ4.out hg5.size) (Ext.al (Ext.rfl' (w := w5)) (.cells #[.int .u8 2, .string ⟨#[]⟩, .bool false, .slice none 0 0, .bool false, .slice none 0 0] 75)).size
          have HL5 : Hid ((((tokO :: tokW W.data.toList :: us ++ (xs.take k).flatMap stTok) ++ [tokO]) ++ [numT q, numT p]).length = 2 + m + k * 4 + 1 + 2) := by unfold Hid; rw [List.length_append, HL3.out]; rfl
          have HNW5 := Lib.hid (World.news_of_block (cs := #[.int .u8 2, .string ⟨#[]⟩, .bool false, .slice none 0 0, .bool false, .slice none 0 0]) (t := 75) (fr := (0, 0)) (heap_alloc_new w5 (.cells #[.int .u8 2, .string ⟨#[]⟩, .bool false, .slice none 0 0, .bool false, .slice none 0 0] 75)))
          clear hr5 hg5 hat
        | skip
          refine wpList_append_toks2 _ rfl (.tmp 36) (.tmp 38) rfl r (2 + m + k * 4 + 1 + 2) 1 (.slice (some ⟨g5, 0, none⟩) (2 + m + k * 4 + 1 + 2) cap5) (((tokO :: tokW W.data.toList :: us ++ (xs.take k).flatMap stTok) ++ [tokO]) ++ [numT q, numT p]) [tokC] [.int .u8 2, .string ⟨#[]⟩, .bool false, .slice none 0 0, .bool false, .slice none 0 0] rfl HR5.out HL5.out ⟨w5.heap.size, 0, none⟩ 1 rfl rfl HNW5.out (close_tok _ _ _) (by omega) (by omega) HZ5.out ?_
          intro g6 cap6 w6 hr6 hg6 hat
          have HR6 := Lib.hid hr6
          have HG6 : Hid (D ≤ g6) := hat_ge hat HG5.out (by have := HE5.out.size; have := HD.out; omega)
          have HE6 : Hid (Ext w w6) := row_ext HE5.out hg6 (Nat.le_of_eq HD.out) HG5.out
          have HZ6 : Hid (r ≤ w6.heap.size) := Nat.le_trans HZ5.out hg6.size
          clear hr6 hg6 hat)
      go_roundw
      case rel =>
        refine ⟨k + 1, cap6, g6, by omega, by go_num, by rw [show 2 + m + (k + 1) * 4 = 2 + m + k * 4 + 1 + 2 + 1 by omega], ?_, HG6.out, HE6.out, HZ6.out⟩
        have h9 := HR6.out
        have e9 : ((((tokO :: tokW W.data.toList :: us ++ (xs.take k).flatMap stTok) ++ [tokO]) ++ [numT q, numT p]) ++ [tokC]) = tokO :: tokW W.data.toList :: us ++ (xs.take (k + 1)).flatMap stTok := by
          rw [HST.out]
          simp [stTok]
        rw [e9] at h9
        rw [show 2 + m + (k + 1) * 4 = 2 + m + k * 4 + 1 + 2 + 1 by omega]
        exact h9
      case measure => simp [intOf]; omega
    · obtain rfl : k = n := by omega
      have hbv : decide ((k : Int) < (k : Int)) = false := by simp
      have hbv2 : decide (k < k) = false := by simp
      have HLf : Hid ((tokO :: tokW W.data.toList :: us ++ (xs.take k).flatMap stTok).length = 2 + m + k * 4) := by
        unfold Hid
        simp only [List.length_cons, List.length_append, stToks_len, List.length_take, HU.out, HLN.out]
        omega
      have hk9 : 2 + m + k * 4 ≤ 2000 := by omega
      have HEfa : Hid (Ext w (wr.alloc (.cells #[.int .u8 2, .string ⟨#[]⟩, .bool false, .slice none 0 0, .bool false, .slice none 0 0] 75))) := Ext.trans HE.out (Ext.al Ext.rfl' _)
      have HRfa := Lib.hid (HROW.out.ext (Ext.al (Ext.rfl' (w := wr)) (.cells #[.int .u8 2, .string ⟨#[]⟩, .bool false, .slice none 0 0, .bool false, .slice none 0 0] 75)))
      have HNWf := Lib.hid (World.news_of_block (cs := #[.int .u8 2, .string ⟨#[]⟩, .bool false, .slice none 0 0, .bool false, .slice none 0 0]) (t := 75) (fr := (0, 0)) (heap_alloc_new wr (.cells #[.int .u8 2, .string ⟨#[]⟩, .bool false, .slice none 0 0, .bool false, .slice none 0 0] 75)))
      have HZf : Hid (r ≤ (wr.alloc (.cells #[.int .u8 2, .string ⟨#[]⟩, .bool false, .slice none 0 0, .bool false, .slice none 0 0] 75)).heap.size) := Nat.le_trans HZ.out (Ext.al (Ext.rfl' (w := wr)) (.cells #[.int .u8 2, .string ⟨#[]⟩, .bool false, .slice none 0 0, .bool false, .slice none 0 0] 75)).size
      go_wp2_with (
        at_builtin
        refine wpList_append_toks2 _ rfl (.tmp 41) (.tmp 43) rfl r (2 + m + k * 4) 1 (.slice (some ⟨g, 0, none⟩) (2 + m + k * 4) cap) (tokO :: tokW W.data.toList :: us ++ (xs.take k).flatMap stTok) [tokC] [.int .u8 2, .string ⟨#[]⟩, .bool false, .slice none 0 0, .bool false, .slice none 0 0] rfl HRfa.out HLf.out ⟨wr.heap.size, 0, none⟩ 1 rfl rfl HNWf.out (close_tok _ _ _) (by omega) (by omega) HZf.out ?_
        intro gf capf wf hr3 hgr hat
        have HRf := Lib.hid hr3
        have HEf : Hid (Ext w wf) := row_ext HEfa.out hgr (Nat.le_of_eq HD.out) HGD.out
        clear hr3 hgr hat)
      have HTK : Hid ((tokO :: tokW W.data.toList :: us ++ (xs.take k).flatMap stTok) ++ [tokC] = tokO :: tokW W.data.toList :: (us ++ stepsToks xs)) := by
        unfold Hid stepsToks
        rw [List.take_of_length_le (by rw [HLN.out]; exact Nat.le_refl _)]
        simp
      have hrf := HRf.out
      have hlf : (tokO :: tokW W.data.toList :: (us ++ stepsToks xs)).length = 2 + m + k * 4 + 1 := by rw [← HTK.out, List.length_append, HLf.out]; rfl
      rw [HTK.out] at hrf
      refine (tformat_row (r := tokW W.data.toList :: (us ++ stepsToks xs)) hrf rfl hlf (by omega) HG.out).mono ?_
      rintro e w9 ⟨rfl, hE9⟩
      have HE9 : Hid (Ext w w9) := Ext.trans HEf.out hE9
      clear hE9 hrf hlf
      go_wp2_with fail
      go_ret2
      exact ⟨rfl, HE9.out⟩
end Go.Proofs.Ytkdbpcenehhopaa

namespace Go.Proofs.Ytkdbpcenehhopaa
open Go.RowKit
def unitT (u : U) : Bs × Int := if u.check 6 = 0 then (fmtT (unitToks u), 0) else ([], u.check 6)
def bidT (b : Int) (xs : List (Int × Int)) : Bs × Int := if bidC b xs = 0 then (fmtT (bidToks b xs), 0) else ([], bidC b xs)
theorem get_mem {zs : List Int} (h : ∀ z ∈ zs, I64r z) : ∀ i, i < zs.length → I64r (zs.getD i 0) := fun i hi => by
  rw [show zs.getD i 0 = zs[i] by simp [List.getD, List.getElem?_eq_getElem hi]]
  exact h _ (List.getElem_mem hi)
set_option maxRecDepth 100000 in
set_option maxHeartbeats 16000000 in
theorem bfmtunit_any (u : U) (A : Option Addr) (n c : Nat) (w : World) (h : StepsAt w A n u.steps) (hn : n ≤ 1000000) :
    Calls Try.prog 10 #[u.val A n c] w fun e w' => e = .returned (.tuple #[.string (bs (unitT u).1), .int .i64 (unitT u).2]) ∧ Ext w w' := by
  obtain ⟨X, hX⟩ : ∃ X, unitT u = X := ⟨_, rfl⟩
  rw [hX]
  have HX := Lib.hid hX
  have H := Lib.hid h
  have HLN := Lib.hid h.1
  clear hX h
  obtain ⟨bus, mn, up, down, start, idle, spin, on, xs⟩ := u
  simp only at H HLN
  go_enter Try.func10, Try.ntmps10
  go_wp2_with fail
  have hB0 : Blk (w.alloc (.cells #[.int .i64 bus, .int .i64 mn, .slice A n c, .int .i64 up, .int .i64 down, .int .i64 start, .int .i64 idle, .int .i64 spin, .int .i64 on] 30)) w.heap.size 30 #[.int .i64 bus, .int .i64 mn, .slice A n c, .int .i64 up, .int .i64 down, .int .i64 start, .int .i64 idle, .int .i64 spin, .int .i64 on] := Blk.new w 30 _
  have hE0 : Ext w (w.alloc (.cells #[.int .i64 bus, .int .i64 mn, .slice A n c, .int .i64 up, .int .i64 down, .int .i64 start, .int .i64 idle, .int .i64 spin, .int .i64 on] 30)) := Ext.al Ext.rfl' _
  generalize (w.alloc (.cells #[.int .i64 bus, .int .i64 mn, .slice A n c, .int .i64 up, .int .i64 down, .int .i64 start, .int .i64 idle, .int .i64 spin, .int .i64 on] 30)) = w0 at *
  obtain ⟨g, hg⟩ : ∃ g, w.heap.size = g := ⟨_, rfl⟩
  rw [hg] at hB0 ⊢
  clear hg
  have HB0 := Lib.hid hB0
  have HE0 := Lib.hid hE0
  clear hB0 hE0
  have x0 : w0.cell? ⟨g, 0, none⟩ = some (.int .i64 bus) := by rw [HB0.out.cell]; rfl
  have x1 : w0.cell? ⟨g, 1, none⟩ = some (.int .i64 mn) := by rw [HB0.out.cell]; rfl
  have x2 : w0.cell? ⟨g, 2, none⟩ = some (.slice A n c) := by rw [HB0.out.cell]; rfl
  have x3 : w0.cell? ⟨g, 3, none⟩ = some (.int .i64 up) := by rw [HB0.out.cell]; rfl
  have x4 : w0.cell? ⟨g, 4, none⟩ = some (.int .i64 down) := by rw [HB0.out.cell]; rfl
  have x5 : w0.cell? ⟨g, 5, none⟩ = some (.int .i64 start) := by rw [HB0.out.cell]; rfl
  have x6 : w0.cell? ⟨g, 6, none⟩ = some (.int .i64 idle) := by rw [HB0.out.cell]; rfl
  have x7 : w0.cell? ⟨g, 7, none⟩ = some (.int .i64 spin) := by rw [HB0.out.cell]; rfl
  have x8 : w0.cell? ⟨g, 8, none⟩ = some (.int .i64 on) := by rw [HB0.out.cell]; rfl
  go_wp2_with fail
  clear x0 x1 x2 x3 x4 x5 x6 x7 x8
  refine (ucheck_any ⟨bus, mn, up, down, start, idle, spin, on, xs⟩ 6 A n c w0 (H.out.below HE0.out) (by unfold maxLen; omega)).mono ?_
  rintro e w1 ⟨rfl, hE⟩
  have HB1 := Lib.hid (HB0.out.keep (hE.block g HB0.out.lt))
  have HE1 := Lib.hid (Ext.trans HE0.out hE)
  clear hE HB0 HE0
  by_cases hc : U.check ⟨bus, mn, up, down, start, idle, spin, on, xs⟩ 6 = 0
  rotate_left
  · have HR : Hid (([], U.check ⟨bus, mn, up, down, start, idle, spin, on, xs⟩ 6) = X) := by unfold Hid; rw [← HX.out]; unfold unitT; rw [if_neg hc]
    clear HX
    generalize U.check ⟨bus, mn, up, down, start, idle, spin, on, xs⟩ 6 = nc at *
    have hcb : (nc != 0) = true := by simp [hc]
    clear hc
    go_wp2_with fail
    go_ret2
    exact ⟨by rw [← HR.out]; rfl, HE1.out⟩
  · have HR : Hid ((fmtT (unitToks ⟨bus, mn, up, down, start, idle, spin, on, xs⟩), 0) = X) := by unfold Hid; rw [← HX.out]; unfold unitT; rw [if_pos hc]
    rw [hc]
    obtain ⟨hz, hi, h3⟩ := unit_zs hc
    have HGOOD := Lib.hid (unit_good hz hi)
    have HZ := Lib.hid (get_mem hz)
    have HI := Lib.hid hi
    have hn3 : n ≤ 3 := by have := HLN.out; simp only at h3; omega
    clear hc hz hi h3 HX
    have x0 : w1.cell? ⟨g, 0, none⟩ = some (.int .i64 bus) := by rw [HB1.out.cell]; rfl
    have x1 : w1.cell? ⟨g, 1, none⟩ = some (.int .i64 mn) := by rw [HB1.out.cell]; rfl
    have x2 : w1.cell? ⟨g, 2, none⟩ = some (.slice A n c) := by rw [HB1.out.cell]; rfl
    have x3 : w1.cell? ⟨g, 3, none⟩ = some (.int .i64 up) := by rw [HB1.out.cell]; rfl
    have x4 : w1.cell? ⟨g, 4, none⟩ = some (.int .i64 down) := by rw [HB1.out.cell]; rfl
    have x5 : w1.cell? ⟨g, 5, none⟩ = some (.int .i64 start) := by rw [HB1.out.cell]; rfl
    have x6 : w1.cell? ⟨g, 6, none⟩ = some (.int .i64 idle) := by rw [HB1.out.cell]; rfl
    have x7 : w1.cell? ⟨g, 7, none⟩ = some (.int .i64 spin) := by rw [HB1.out.cell]; rfl
    have x8 : w1.cell? ⟨g, 8, none⟩ = some (.int .i64 on) := by rw [HB1.out.cell]; rfl
    go_wp2_with fail
    clear x0 x1 x2 x3 x4 x5 x6 x7 x8
    have hI := ints_lit w1 #[.int .i64 bus, .int .i64 mn, .int .i64 up, .int .i64 down, .int .i64 start, .int .i64 idle, .int .i64 spin, .int .i64 on] 2 [bus, mn, up, down, start, idle, spin, on] rfl
    refine (bnumbers_any _ 8 _ [bus, mn, up, down, start, idle, spin, on] _ hI (fun i hi => HZ.out i hi) (by omega)).mono ?_
    clear hI
    have hEi : Ext w1 (w1.alloc (.cells #[.int .i64 bus, .int .i64 mn, .int .i64 up, .int .i64 down, .int .i64 start, .int .i64 idle, .int .i64 spin, .int .i64 on] 2)) := Ext.al Ext.rfl' _
    rintro e w2 ⟨⟨cs, rfl, hN⟩, hE⟩
    have hE2 := Ext.trans hEi hE
    obtain ⟨r, hr⟩ : ∃ x, (w1.alloc (.cells #[.int .i64 bus, .int .i64 mn, .int .i64 up, .int .i64 down, .int .i64 start, .int .i64 idle, .int .i64 spin, .int .i64 on] 2)).heap.size = x := ⟨_, rfl⟩
    rw [hr] at hN ⊢
    have HN := Lib.hid hN
    have HB2 := Lib.hid (HB1.out.keep (hE2.block g HB1.out.lt))
    have HE2 := Lib.hid (Ext.trans HE1.out hE2)
    clear hE hE2 hEi hN hr HB1 HE1
    have x0 : w2.cell? ⟨g, 0, none⟩ = some (.int .i64 bus) := by rw [HB2.out.cell]; rfl
    have x1 : w2.cell? ⟨g, 1, none⟩ = some (.int .i64 mn) := by rw [HB2.out.cell]; rfl
    have x2 : w2.cell? ⟨g, 2, none⟩ = some (.slice A n c) := by rw [HB2.out.cell]; rfl
    have x3 : w2.cell? ⟨g, 3, none⟩ = some (.int .i64 up) := by rw [HB2.out.cell]; rfl
    have x4 : w2.cell? ⟨g, 4, none⟩ = some (.int .i64 down) := by rw [HB2.out.cell]; rfl
    have x5 : w2.cell? ⟨g, 5, none⟩ = some (.int .i64 start) := by rw [HB2.out.cell]; rfl
    have x6 : w2.cell? ⟨g, 6, none⟩ = some (.int .i64 idle) := by rw [HB2.out.cell]; rfl
    have x7 : w2.cell? ⟨g, 7, none⟩ = some (.int .i64 spin) := by rw [HB2.out.cell]; rfl
    have x8 : w2.cell? ⟨g, 8, none⟩ = some (.int .i64 on) := by rw [HB2.out.cell]; rfl
    go_wp2_with fail
    clear x0 x1 x2 x3 x4 x5 x6 x7 x8
    refine (bformat_any ⟨#[117, 110, 105, 116]⟩ r 8 _ cs A n c xs w2 (by decide +kernel) HN.out rfl (by omega) (by omega) (H.out.below HE2.out) HI.out (by omega) HGOOD.out).mono ?_
    rintro e w3 ⟨rfl, hE⟩
    have HE3 := Lib.hid (Ext.trans HE2.out hE)
    clear hE
    go_wp2_with fail
    go_ret2
    exact ⟨by rw [← HR.out]; rfl, HE3.out⟩
set_option maxRecDepth 100000 in
set_option maxHeartbeats 16000000 in
theorem bfmtbid_any (b : Int) (xs : List (Int × Int)) (A : Option Addr) (n c : Nat) (w : World) (h : StepsAt w A n xs) (hn : n ≤ 1000000) :
    Calls Try.prog 11 #[.agg #[.int .i64 b, .slice A n c]] w fun e w' => e = .returned (.tuple #[.string (bs (bidT b xs).1), .int .i64 (bidT b xs).2]) ∧ Ext w w' := by
  obtain ⟨X, hX⟩ : ∃ X, bidT b xs = X := ⟨_, rfl⟩
  rw [hX]
  have HX := Lib.hid hX
  have H := Lib.hid h
  have HLN := Lib.hid h.1
  clear hX h
  go_enter Try.func11, Try.ntmps11
  go_wp2_with fail
  have hC0 := Cell2.new w _ rfl (.int .i64 b) (.slice A n c) 33
  have hE0 : Ext w (w.alloc (.cells #[.int .i64 b, .slice A n c] 33)) := Ext.al Ext.rfl' _
  generalize (w.alloc (.cells #[.int .i64 b, .slice A n c] 33)) = w0 at *
  obtain ⟨g, hg⟩ : ∃ g, w.heap.size = g := ⟨_, rfl⟩
  rw [hg] at hC0 ⊢
  clear hg
  have HC0 := Lib.hid hC0
  have HE0 := Lib.hid hE0
  clear hC0 hE0
  obtain ⟨x0, x1, -, -, -⟩ := HC0.out
  go_wp2_with fail
  clear x0 x1
  refine (bcheck_any b A n c xs w0 (H.out.below HE0.out) (by unfold maxLen; omega)).mono ?_
  rintro e w1 ⟨rfl, hE⟩
  have HC1 := Lib.hid (HC0.out.ext hE)
  have HE1 := Lib.hid (Ext.trans HE0.out hE)
  clear hE HC0 HE0
  by_cases hc : bidC b xs = 0
  rotate_left
  · have HR : Hid (([], bidC b xs) = X) := by unfold Hid; rw [← HX.out]; unfold bidT; rw [if_neg hc]
    clear HX
    generalize bidC b xs = nc at *
    have hcb : (nc != 0) = true := by simp [hc]
    clear hc
    go_wp2_with fail
    go_ret2
    exact ⟨by rw [← HR.out]; rfl, HE1.out⟩
  · have HR : Hid ((fmtT (bidToks b xs), 0) = X) := by unfold Hid; rw [← HX.out]; unfold bidT; rw [if_pos hc]
    rw [hc]
    obtain ⟨hz, hi, h3⟩ := bid_zs hc
    have HGOOD := Lib.hid (bid_good hz hi)
    have HZ := Lib.hid (get_mem (zs := [b]) (fun z hz2 => by obtain rfl : z = b := by simpa using hz2
                                                             exact hz))
    have HI := Lib.hid hi
    have hn3 : n ≤ 3 := by have := HLN.out; omega
    clear hc hz hi h3 HX
    go_wp2_with fail
    have HEX : Hid (Ext w1 w1.drew) := Ext.rfl'.drew
    have hC9 := HC1.out.ext HEX.out
    have hE9 := Ext.trans HE1.out HEX.out
    refine wp_region_lexS (C := InX w1.drew []) (by kernel_rfl) (by kernel_rfl) (inX_self _ _) ?_
    generalize w1.drew = w9 at *
    obtain ⟨c0, c1, -, -, -⟩ := hC9
    have zz0 := fun z : ExtX w9 [] => z.cell (p := ⟨g, 0, none⟩) c0 (by simp)
    have zz1 := fun z : ExtX w9 [] => z.cell (p := ⟨g, 1, none⟩) c1 (by simp)
    have HE9 := Lib.hid hE9
    clear c0 c1 hE9 HC1
    repeat (refine lexAt_still (by rfl) ?_; go_big_quiet_step (fail); refine wpQuiet_nil ?_)
    refine lexAt_move (by rfl) (by kernel_rfl) ?_
    go_wp2_with fail
    have hEi : Ext w9 (w9.alloc (.cells #[.int .i64 b] 2)) := Ext.al Ext.rfl' _
    refine And.intro (inX_of_ext _ hEi) ?_
    repeat (refine lexAt_still (by rfl) ?_; go_big_quiet_step (fail); refine wpQuiet_nil ?_)
    refine lexAt_move (by rfl) (by kernel_rfl) ?_
    go_wp2_with fail
    have hI := ints_lit w9 #[.int .i64 b] 2 [b] rfl
    refine (bnumbers_any _ 1 _ [b] _ hI (fun i hi => HZ.out i hi) (by omega)).mono ?_
    clear hI
    rintro e w2 ⟨⟨cs, rfl, hN⟩, hE⟩
    have hE2 := Ext.trans hEi hE
    obtain ⟨r, hr⟩ : ∃ x, (w9.alloc (.cells #[.int .i64 b] 2)).heap.size = x := ⟨_, rfl⟩
    rw [hr] at hN ⊢
    have HN := Lib.hid hN
    have HE2 := Lib.hid (Ext.trans HE9.out hE2)
    have HX2 := Lib.hid hE2
    clear hE hE2 hEi hN hr
    go_wp2_with fail
    refine And.intro (inX_of_ext _ HX2.out) ?_
    repeat (refine lexAt_still (by rfl) ?_; go_big_quiet_step (fail); refine wpQuiet_nil ?_)
    refine lexAt_move (by rfl) (by kernel_rfl) ?_
    go_wp2_with fail
    refine (bformat_any ⟨#[98, 105, 100]⟩ r 1 _ cs A n c xs w2 (by decide +kernel) HN.out rfl (by omega) (by omega) (H.out.below HE2.out) HI.out (by omega) HGOOD.out).mono ?_
    rintro e w3 ⟨rfl, hE⟩
    have HE3 := Lib.hid (Ext.trans HE2.out hE)
    have HX3 := Lib.hid (Ext.trans HX2.out hE)
    clear hE
    go_wp2_with fail
    refine And.intro (inX_of_ext _ HX3.out) ?_
    repeat (refine lexAt_still (by rfl) ?_; go_big_quiet_step (fail); refine wpQuiet_nil ?_)
    refine lexAt_nil ?_
    clear zz0 zz1
    go_wp2_with fail
    go_ret2
    exact ⟨by rw [← HR.out]; rfl, HE3.out⟩
end Go.Proofs.Ytkdbpcenehhopaa

namespace Go.Proofs.Ytkdbpcenehhopaa
open Go.RowKit
set_option maxRecDepth 100000 in
set_option maxHeartbeats 4000000 in
theorem bsteps_same (A : Option Addr) (n c : Nat) (B : Option Addr) (d : Nat) (xs : List (Int × Int)) (w : World) (hx : StepsAt w A n xs) (hy : StepsAt w B n xs) (hn : n ≤ maxLen) :
    Calls Try.prog 29 #[.slice A n c, .slice B n d] w fun e w' => e = .returned (.bool true) ∧ Ext w w' := by
  unfold maxLen at hn
  have HX := Lib.hid hx
  have HY := Lib.hid hy
  clear hx hy
  go_enter Try.func29, Try.ntmps29
  go_wp2_with fail
  go_loopw [5] (fun i wr => ∃ k : Nat, k ≤ n ∧ i = .int .i64 k ∧ Hid (Ext w wr)) (fun i _ => n - (intOf i).toNat)
  case atStart => exact ⟨0, by omega, rfl, Ext.rfl'⟩
  case round =>
    obtain ⟨k, hk, rfl, HE⟩ := hrel
    by_cases hlt : k < n
    · obtain ⟨b, off, hA, hlb, hcell⟩ := HX.out.2 (by omega)
      obtain ⟨b2, off2, hB, hlb2, hcell2⟩ := HY.out.2 (by omega)
      subst hA hB
      obtain ⟨c1, c2⟩ := hcell k hlt
      obtain ⟨e1, e2⟩ := hcell2 k hlt
      have d1 := Ext.cellOf HE.out c1
      have d2 := Ext.cellOf HE.out c2
      have g1 := Ext.cellOf HE.out e1
      have g2 := Ext.cellOf HE.out e2
      have hbv : decide ((k : Int) < (n : Int)) = true := by simp; omega
      generalize (xs.getD k (0, 0)).1 = q at *
      generalize (xs.getD k (0, 0)).2 = p at *
      clear c1 c2 e1 e2 hcell hcell2
      go_wp2_with fail
      go_quiet (fail)
      go_wp2_with fail
      go_roundw
      case rel => exact ⟨k + 1, by omega, by go_num, below_drewN HE.out _⟩
      case measure => simp [intOf]; omega
    · have hbv : decide ((k : Int) < (n : Int)) = false := by simp; omega
      go_wp2_with fail
      go_ret
      exact ⟨rfl, HE.out⟩
set_option maxRecDepth 100000 in
set_option maxHeartbeats 16000000 in
theorem bt_same (u : U) (A : Option Addr) (n c : Nat) (B : Option Addr) (d : Nat) (w : World) (h : StepsAt w A n u.steps) (h' : StepsAt w B n u.steps) (hn : n ≤ 1000000) :
    Calls Try.prog 17 #[u.val A n c, u.val B n d] w fun e w' => e = .returned (.bool true) ∧ Ext w w' := by
  have H := Lib.hid h
  have H' := Lib.hid h'
  clear h h'
  obtain ⟨bus, mn, up, down, start, idle, spin, on, xs⟩ := u
  simp only at H H'
  go_enter Try.func17, Try.ntmps17
  go_wp2_with fail
  have hA : Blk ((w.alloc (.cells #[.int .i64 bus, .int .i64 mn, .slice A n c, .int .i64 up, .int .i64 down, .int .i64 start, .int .i64 idle, .int .i64 spin, .int .i64 on] 30)).alloc (.cells #[.int .i64 bus, .int .i64 mn, .slice B n d, .int .i64 up, .int .i64 down, .int .i64 start, .int .i64 idle, .int .i64 spin, .int .i64 on] 30)) w.heap.size 30 #[.int .i64 bus, .int .i64 mn, .slice A n c, .int .i64 up, .int .i64 down, .int .i64 start, .int .i64 idle, .int .i64 spin, .int .i64 on] := (Blk.new w 30 _).alloc _
  have hB : Blk ((w.alloc (.cells #[.int .i64 bus, .int .i64 mn, .slice A n c, .int .i64 up, .int .i64 down, .int .i64 start, .int .i64 idle, .int .i64 spin, .int .i64 on] 30)).alloc (.cells #[.int .i64 bus, .int .i64 mn, .slice B n d, .int .i64 up, .int .i64 down, .int .i64 start, .int .i64 idle, .int .i64 spin, .int .i64 on] 30)) (w.heap.size + 1) 30 #[.int .i64 bus, .int .i64 mn, .slice B n d, .int .i64 up, .int .i64 down, .int .i64 start, .int .i64 idle, .int .i64 spin, .int .i64 on] := by
    have := Blk.new (w.alloc (.cells #[.int .i64 bus, .int .i64 mn, .slice A n c, .int .i64 up, .int .i64 down, .int .i64 start, .int .i64 idle, .int .i64 spin, .int .i64 on] 30)) 30 #[.int .i64 bus, .int .i64 mn, .slice B n d, .int .i64 up, .int .i64 down, .int .i64 start, .int .i64 idle, .int .i64 spin, .int .i64 on]
    simp only [World.size_alloc] at this
    exact this
  have hE : Ext w ((w.alloc (.cells #[.int .i64 bus, .int .i64 mn, .slice A n c, .int .i64 up, .int .i64 down, .int .i64 start, .int .i64 idle, .int .i64 spin, .int .i64 on] 30)).alloc (.cells #[.int .i64 bus, .int .i64 mn, .slice B n d, .int .i64 up, .int .i64 down, .int .i64 start, .int .i64 idle, .int .i64 spin, .int .i64 on] 30)) := Ext.al (Ext.al Ext.rfl' _) _
  generalize ((w.alloc (.cells #[.int .i64 bus, .int .i64 mn, .slice A n c, .int .i64 up, .int .i64 down, .int .i64 start, .int .i64 idle, .int .i64 spin, .int .i64 on] 30)).alloc (.cells #[.int .i64 bus, .int .i64 mn, .slice B n d, .int .i64 up, .int .i64 down, .int .i64 start, .int .i64 idle, .int .i64 spin, .int .i64 on] 30)) = w0 at *
  obtain ⟨ga, hga⟩ : ∃ g, w.heap.size = g := ⟨_, rfl⟩
  rw [hga] at hA hB ⊢
  obtain ⟨gb, hgb⟩ : ∃ g, ga + 1 = g := ⟨_, rfl⟩
  rw [hgb] at hB ⊢
  clear hga hgb
  have HA := Lib.hid hA
  have HB := Lib.hid hB
  have HE := Lib.hid hE
  clear hA hB hE
  have y0 : w0.cell? ⟨ga, 2, none⟩ = some (.slice A n c) := by rw [HA.out.cell]; rfl
  have y1 : w0.cell? ⟨gb, 2, none⟩ = some (.slice B n d) := by rw [HB.out.cell]; rfl
  go_wp2_with fail
  clear y0 y1
  refine (bsteps_same A n c B d xs w0 (H.out.below HE.out) (H'.out.below HE.out) (by unfold maxLen; omega)).mono ?_
  rintro e w1 ⟨rfl, hE⟩
  have HA1 := Lib.hid (HA.out.keep (hE.block ga HA.out.lt))
  have HB1 := Lib.hid (HB.out.keep (hE.block gb HB.out.lt))
  have HE1 := Lib.hid (Ext.trans HE.out hE)
  clear hE HA HB HE
  have x0 : w1.cell? ⟨ga, 0, none⟩ = some (.int .i64 bus) := by rw [HA1.out.cell]; rfl
  have x1 : w1.cell? ⟨ga, 1, none⟩ = some (.int .i64 mn) := by rw [HA1.out.cell]; rfl
  have x2 : w1.cell? ⟨ga, 2, none⟩ = some (.slice A n c) := by rw [HA1.out.cell]; rfl
  have x3 : w1.cell? ⟨ga, 3, none⟩ = some (.int .i64 up) := by rw [HA1.out.cell]; rfl
  have x4 : w1.cell? ⟨ga, 4, none⟩ = some (.int .i64 down) := by rw [HA1.out.cell]; rfl
  have x5 : w1.cell? ⟨ga, 5, none⟩ = some (.int .i64 start) := by rw [HA1.out.cell]; rfl
  have x6 : w1.cell? ⟨ga, 6, none⟩ = some (.int .i64 idle) := by rw [HA1.out.cell]; rfl
  have x7 : w1.cell? ⟨ga, 7, none⟩ = some (.int .i64 spin) := by rw [HA1.out.cell]; rfl
  have x8 : w1.cell? ⟨ga, 8, none⟩ = some (.int .i64 on) := by rw [HA1.out.cell]; rfl
  have y0 : w1.cell? ⟨gb, 0, none⟩ = some (.int .i64 bus) := by rw [HB1.out.cell]; rfl
  have y1 : w1.cell? ⟨gb, 1, none⟩ = some (.int .i64 mn) := by rw [HB1.out.cell]; rfl
  have y2 : w1.cell? ⟨gb, 2, none⟩ = some (.slice B n d) := by rw [HB1.out.cell]; rfl
  have y3 : w1.cell? ⟨gb, 3, none⟩ = some (.int .i64 up) := by rw [HB1.out.cell]; rfl
  have y4 : w1.cell? ⟨gb, 4, none⟩ = some (.int .i64 down) := by rw [HB1.out.cell]; rfl
  have y5 : w1.cell? ⟨gb, 5, none⟩ = some (.int .i64 start) := by rw [HB1.out.cell]; rfl
  have y6 : w1.cell? ⟨gb, 6, none⟩ = some (.int .i64 idle) := by rw [HB1.out.cell]; rfl
  have y7 : w1.cell? ⟨gb, 7, none⟩ = some (.int .i64 spin) := by rw [HB1.out.cell]; rfl
  have y8 : w1.cell? ⟨gb, 8, none⟩ = some (.int .i64 on) := by rw [HB1.out.cell]; rfl
  have e0 : (bus == bus) = true := by simp
  have e1 : (mn == mn) = true := by simp
  have e2 : (up == up) = true := by simp
  have e3 : (down == down) = true := by simp
  have e4 : (start == start) = true := by simp
  have e5 : (idle == idle) = true := by simp
  have e6 : (spin == spin) = true := by simp
  have e7 : (on == on) = true := by simp
  go_wp2_with fail
  go_ret
  exact ⟨rfl, HE1.out⟩
set_option maxRecDepth 100000 in
set_option maxHeartbeats 16000000 in
theorem bt_sameb (b : Int) (xs : List (Int × Int)) (A : Option Addr) (n c : Nat) (B : Option Addr) (d : Nat) (w : World) (h : StepsAt w A n xs) (h' : StepsAt w B n xs) (hn : n ≤ 1000000) :
    Calls Try.prog 18 #[.agg #[.int .i64 b, .slice A n c], .agg #[.int .i64 b, .slice B n d]] w fun e w' => e = .returned (.bool true) ∧ Ext w w' := by
  have H := Lib.hid h
  have H' := Lib.hid h'
  clear h h'
  go_enter Try.func18, Try.ntmps18
  go_wp2_with fail
  have hA := (Cell2.new w _ rfl (.int .i64 b) (.slice A n c) 33).ext (show Ext (w.alloc (.cells #[.int .i64 b, .slice A n c] 33)) ((w.alloc (.cells #[.int .i64 b, .slice A n c] 33)).alloc (.cells #[.int .i64 b, .slice B n d] 33)) from Ext.al Ext.rfl' _)
  have hB := Cell2.new (w.alloc (.cells #[.int .i64 b, .slice A n c] 33)) _ rfl (.int .i64 b) (.slice B n d) 33
  have he : (w.alloc (.cells #[.int .i64 b, .slice A n c] 33)).heap.size = w.heap.size + 1 := by simp
  rw [he] at hB
  have hE : Ext w ((w.alloc (.cells #[.int .i64 b, .slice A n c] 33)).alloc (.cells #[.int .i64 b, .slice B n d] 33)) := Ext.al (Ext.al Ext.rfl' _) _
  generalize ((w.alloc (.cells #[.int .i64 b, .slice A n c] 33)).alloc (.cells #[.int .i64 b, .slice B n d] 33)) = w0 at *
  obtain ⟨ga, hga⟩ : ∃ g, w.heap.size = g := ⟨_, rfl⟩
  rw [hga] at hA hB ⊢
  obtain ⟨gb, hgb⟩ : ∃ g, ga + 1 = g := ⟨_, rfl⟩
  rw [hgb] at hB ⊢
  clear hga hgb he
  have HE := Lib.hid hE
  clear hE
  obtain ⟨x0, x1, -, -, -⟩ := hA
  obtain ⟨y0, y1, -, -, -⟩ := hB
  have e0 : (b == b) = true := by simp
  go_wp2_with fail
  clear x0 x1 y0 y1
  refine (bsteps_same A n c B d xs w0 (H.out.below HE.out) (H'.out.below HE.out) (by unfold maxLen; omega)).mono ?_
  rintro e w1 ⟨rfl, hE⟩
  have HE1 := Lib.hid (Ext.trans HE.out hE)
  clear hE
  go_wp2_with fail
  go_ret
  exact ⟨rfl, HE1.out⟩
theorem blong_any (S : ByteArray) (A : Option Addr) (n c : Nat) (w : World) :
    Calls Try.prog 13 #[.string S, .slice A n c] w fun e w' => e = .returned (.bool (decide (5000 < S.size) || decide (50 < n))) ∧ Ext w w' := by
  by_cases h1 : 5000 < S.size
  · have a1 : decide ((5000 : Int) < (S.size : Int)) = true := decide_eq_true (by omega)
    have a2 : decide (5000 < S.size) = true := decide_eq_true h1
    go_enter Try.func13, Try.ntmps13
    go_wp2_with fail
    go_ret
    exact ⟨ret_b (by rw [a2]; rfl), Ext.rfl'⟩
  · have a1 : decide ((5000 : Int) < (S.size : Int)) = false := decide_eq_false (by omega)
    have a2 : decide (5000 < S.size) = false := decide_eq_false h1
    by_cases h2 : 50 < n
    · have a3 : decide ((50 : Int) < (n : Int)) = true := decide_eq_true (by omega)
      have a4 : decide (50 < n) = true := decide_eq_true h2
      go_enter Try.func13, Try.ntmps13
      go_wp2_with fail
      go_ret
      exact ⟨ret_b (by rw [a2, a4]; rfl), Ext.rfl'⟩
    · have a3 : decide ((50 : Int) < (n : Int)) = false := decide_eq_false (by omega)
      have a4 : decide (50 < n) = false := decide_eq_false h2
      go_enter Try.func13, Try.ntmps13
      go_wp2_with fail
      go_ret
      exact ⟨ret_b (by rw [a2, a4]; rfl), Ext.rfl'⟩
set_option maxRecDepth 100000 in
set_option maxHeartbeats 16000000 in
theorem bt_unit (S : ByteArray) (k : Int) (u : U) (A : Option Addr) (n c : Nat) (nx er : Int) (w : World) (hR : unitR S.data.toList k = ⟨u, nx, er⟩) (h : StepsAt w A n u.steps) (hs : S.size ≤ maxLen) (hn : n ≤ 1000000) :
    Calls Try.prog 7 #[.string S, .int .i64 k, u.val A n c, .int .i64 nx, .int .i64 er] w fun e w' => e = .returned (.bool true) ∧ Ext w w' := by
  have HR := Lib.hid hR
  have H := Lib.hid h
  have HS := Lib.hid hs
  clear hR h hs
  obtain ⟨bus, mn, up, down, start, idle, spin, on, xs⟩ := u
  simp only at H
  go_enter Try.func7, Try.ntmps7
  go_wp2_with fail
  have hA : Blk (w.alloc (.cells #[.int .i64 bus, .int .i64 mn, .slice A n c, .int .i64 up, .int .i64 down, .int .i64 start, .int .i64 idle, .int .i64 spin, .int .i64 on] 30)) w.heap.size 30 #[.int .i64 bus, .int .i64 mn, .slice A n c, .int .i64 up, .int .i64 down, .int .i64 start, .int .i64 idle, .int .i64 spin, .int .i64 on] := Blk.new w 30 _
  have hE0 : Ext w (w.alloc (.cells #[.int .i64 bus, .int .i64 mn, .slice A n c, .int .i64 up, .int .i64 down, .int .i64 start, .int .i64 idle, .int .i64 spin, .int .i64 on] 30)) := Ext.al Ext.rfl' _
  generalize (w.alloc (.cells #[.int .i64 bus, .int .i64 mn, .slice A n c, .int .i64 up, .int .i64 down, .int .i64 start, .int .i64 idle, .int .i64 spin, .int .i64 on] 30)) = w0 at *
  obtain ⟨ga, hga⟩ : ∃ x, w.heap.size = x := ⟨_, rfl⟩
  rw [hga] at hA ⊢
  clear hga
  have HA := Lib.hid hA
  have HE0 := Lib.hid hE0
  clear hA hE0
  have hp := parseunit_any S k w0 HS.out
  rw [HR.out] at hp
  refine hp.mono ?_
  clear hp
  rintro ee w1 ⟨A2, c2, rfl, hL, hE1⟩
  have e0 := H.out.1
  simp only at hL e0 ⊢
  rw [e0] at hL ⊢
  have HE1 := Lib.hid (Ext.trans HE0.out hE1)
  have hA1 := HA.out.keep (hE1.block ga HA.out.lt)
  clear HA hE1 e0
  have hB : Blk (w1.alloc (.cells #[.int .i64 bus, .int .i64 mn, .slice A2 n c2, .int .i64 up, .int .i64 down, .int .i64 start, .int .i64 idle, .int .i64 spin, .int .i64 on] 30)) w1.heap.size 30 #[.int .i64 bus, .int .i64 mn, .slice A2 n c2, .int .i64 up, .int .i64 down, .int .i64 start, .int .i64 idle, .int .i64 spin, .int .i64 on] := Blk.new w1 30 _
  have hE2 : Ext w1 (w1.alloc (.cells #[.int .i64 bus, .int .i64 mn, .slice A2 n c2, .int .i64 up, .int .i64 down, .int .i64 start, .int .i64 idle, .int .i64 spin, .int .i64 on] 30)) := Ext.al Ext.rfl' _
  have HA := Lib.hid (hA1.alloc (.cells #[.int .i64 bus, .int .i64 mn, .slice A2 n c2, .int .i64 up, .int .i64 down, .int .i64 start, .int .i64 idle, .int .i64 spin, .int .i64 on] 30))
  have HB := Lib.hid hB
  have HE2 := Lib.hid (Ext.trans HE1.out hE2)
  have HL2 := Lib.hid (hL.below hE2)
  clear hA1 hB hL hE2
  have x0 : (w1.alloc (.cells #[.int .i64 bus, .int .i64 mn, .slice A2 n c2, .int .i64 up, .int .i64 down, .int .i64 start, .int .i64 idle, .int .i64 spin, .int .i64 on] 30)).cell? ⟨ga, 0, none⟩ = some (.int .i64 bus) := by rw [HA.out.cell]; rfl
  have x1 : (w1.alloc (.cells #[.int .i64 bus, .int .i64 mn, .slice A2 n c2, .int .i64 up, .int .i64 down, .int .i64 start, .int .i64 idle, .int .i64 spin, .int .i64 on] 30)).cell? ⟨ga, 1, none⟩ = some (.int .i64 mn) := by rw [HA.out.cell]; rfl
  have x2 : (w1.alloc (.cells #[.int .i64 bus, .int .i64 mn, .slice A2 n c2, .int .i64 up, .int .i64 down, .int .i64 start, .int .i64 idle, .int .i64 spin, .int .i64 on] 30)).cell? ⟨ga, 2, none⟩ = some (.slice A n c) := by rw [HA.out.cell]; rfl
  have x3 : (w1.alloc (.cells #[.int .i64 bus, .int .i64 mn, .slice A2 n c2, .int .i64 up, .int .i64 down, .int .i64 start, .int .i64 idle, .int .i64 spin, .int .i64 on] 30)).cell? ⟨ga, 3, none⟩ = some (.int .i64 up) := by rw [HA.out.cell]; rfl
  have x4 : (w1.alloc (.cells #[.int .i64 bus, .int .i64 mn, .slice A2 n c2, .int .i64 up, .int .i64 down, .int .i64 start, .int .i64 idle, .int .i64 spin, .int .i64 on] 30)).cell? ⟨ga, 4, none⟩ = some (.int .i64 down) := by rw [HA.out.cell]; rfl
  have x5 : (w1.alloc (.cells #[.int .i64 bus, .int .i64 mn, .slice A2 n c2, .int .i64 up, .int .i64 down, .int .i64 start, .int .i64 idle, .int .i64 spin, .int .i64 on] 30)).cell? ⟨ga, 5, none⟩ = some (.int .i64 start) := by rw [HA.out.cell]; rfl
  have x6 : (w1.alloc (.cells #[.int .i64 bus, .int .i64 mn, .slice A2 n c2, .int .i64 up, .int .i64 down, .int .i64 start, .int .i64 idle, .int .i64 spin, .int .i64 on] 30)).cell? ⟨ga, 6, none⟩ = some (.int .i64 idle) := by rw [HA.out.cell]; rfl
  have x7 : (w1.alloc (.cells #[.int .i64 bus, .int .i64 mn, .slice A2 n c2, .int .i64 up, .int .i64 down, .int .i64 start, .int .i64 idle, .int .i64 spin, .int .i64 on] 30)).cell? ⟨ga, 7, none⟩ = some (.int .i64 spin) := by rw [HA.out.cell]; rfl
  have x8 : (w1.alloc (.cells #[.int .i64 bus, .int .i64 mn, .slice A2 n c2, .int .i64 up, .int .i64 down, .int .i64 start, .int .i64 idle, .int .i64 spin, .int .i64 on] 30)).cell? ⟨ga, 8, none⟩ = some (.int .i64 on) := by rw [HA.out.cell]; rfl
  have y0 : (w1.alloc (.cells #[.int .i64 bus, .int .i64 mn, .slice A2 n c2, .int .i64 up, .int .i64 down, .int .i64 start, .int .i64 idle, .int .i64 spin, .int .i64 on] 30)).cell? ⟨w1.heap.size, 0, none⟩ = some (.int .i64 bus) := by rw [HB.out.cell]; rfl
  have y1 : (w1.alloc (.cells #[.int .i64 bus, .int .i64 mn, .slice A2 n c2, .int .i64 up, .int .i64 down, .int .i64 start, .int .i64 idle, .int .i64 spin, .int .i64 on] 30)).cell? ⟨w1.heap.size, 1, none⟩ = some (.int .i64 mn) := by rw [HB.out.cell]; rfl
  have y2 : (w1.alloc (.cells #[.int .i64 bus, .int .i64 mn, .slice A2 n c2, .int .i64 up, .int .i64 down, .int .i64 start, .int .i64 idle, .int .i64 spin, .int .i64 on] 30)).cell? ⟨w1.heap.size, 2, none⟩ = some (.slice A2 n c2) := by rw [HB.out.cell]; rfl
  have y3 : (w1.alloc (.cells #[.int .i64 bus, .int .i64 mn, .slice A2 n c2, .int .i64 up, .int .i64 down, .int .i64 start, .int .i64 idle, .int .i64 spin, .int .i64 on] 30)).cell? ⟨w1.heap.size, 3, none⟩ = some (.int .i64 up) := by rw [HB.out.cell]; rfl
  have y4 : (w1.alloc (.cells #[.int .i64 bus, .int .i64 mn, .slice A2 n c2, .int .i64 up, .int .i64 down, .int .i64 start, .int .i64 idle, .int .i64 spin, .int .i64 on] 30)).cell? ⟨w1.heap.size, 4, none⟩ = some (.int .i64 down) := by rw [HB.out.cell]; rfl
  have y5 : (w1.alloc (.cells #[.int .i64 bus, .int .i64 mn, .slice A2 n c2, .int .i64 up, .int .i64 down, .int .i64 start, .int .i64 idle, .int .i64 spin, .int .i64 on] 30)).cell? ⟨w1.heap.size, 5, none⟩ = some (.int .i64 start) := by rw [HB.out.cell]; rfl
  have y6 : (w1.alloc (.cells #[.int .i64 bus, .int .i64 mn, .slice A2 n c2, .int .i64 up, .int .i64 down, .int .i64 start, .int .i64 idle, .int .i64 spin, .int .i64 on] 30)).cell? ⟨w1.heap.size, 6, none⟩ = some (.int .i64 idle) := by rw [HB.out.cell]; rfl
  have y7 : (w1.alloc (.cells #[.int .i64 bus, .int .i64 mn, .slice A2 n c2, .int .i64 up, .int .i64 down, .int .i64 start, .int .i64 idle, .int .i64 spin, .int .i64 on] 30)).cell? ⟨w1.heap.size, 7, none⟩ = some (.int .i64 spin) := by rw [HB.out.cell]; rfl
  have y8 : (w1.alloc (.cells #[.int .i64 bus, .int .i64 mn, .slice A2 n c2, .int .i64 up, .int .i64 down, .int .i64 start, .int .i64 idle, .int .i64 spin, .int .i64 on] 30)).cell? ⟨w1.heap.size, 8, none⟩ = some (.int .i64 on) := by rw [HB.out.cell]; rfl
  have e1 : (er == er) = true := by simp
  have e2 : (nx == nx) = true := by simp
  go_wp2_with fail
  refine (bt_same ⟨bus, mn, up, down, start, idle, spin, on, xs⟩ A2 n c2 A c _ HL2.out (H.out.below HE2.out) hn).mono ?_
  rintro ee w3 ⟨rfl, hE3⟩
  have HE3 := Lib.hid (Ext.trans HE2.out hE3)
  clear x0 x1 x2 x3 x4 x5 x6 x7 x8 y0 y1 y2 y3 y4 y5 y6 y7 y8 hE3
  go_wp2_with fail
  go_ret
  exact ⟨rfl, HE3.out⟩
set_option maxRecDepth 100000 in
set_option maxHeartbeats 16000000 in
theorem bt_bid (S : ByteArray) (k : Int) (b : Int) (xs : List (Int × Int)) (A : Option Addr) (n c : Nat) (nx er : Int) (w : World) (hR : bidR S.data.toList k = ⟨b, xs, nx, er⟩) (h : StepsAt w A n xs) (hs : S.size ≤ maxLen) (hn : n ≤ 1000000) :
    Calls Try.prog 8 #[.string S, .int .i64 k, .agg #[.int .i64 b, .slice A n c], .int .i64 nx, .int .i64 er] w fun e w' => e = .returned (.bool true) ∧ Ext w w' := by
  have HR := Lib.hid hR
  have H := Lib.hid h
  have HS := Lib.hid hs
  clear hR h hs
  go_enter Try.func8, Try.ntmps8
  go_wp2_with fail
  have hA : Blk (w.alloc (.cells #[.int .i64 b, .slice A n c] 33)) w.heap.size 33 #[.int .i64 b, .slice A n c] := Blk.new w 33 _
  have hE0 : Ext w (w.alloc (.cells #[.int .i64 b, .slice A n c] 33)) := Ext.al Ext.rfl' _
  generalize (w.alloc (.cells #[.int .i64 b, .slice A n c] 33)) = w0 at *
  obtain ⟨ga, hga⟩ : ∃ x, w.heap.size = x := ⟨_, rfl⟩
  rw [hga] at hA ⊢
  clear hga
  have HA := Lib.hid hA
  have HE0 := Lib.hid hE0
  clear hA hE0
  have hp := parsebid_any S k w0 HS.out
  rw [HR.out] at hp
  refine hp.mono ?_
  clear hp
  rintro ee w1 ⟨A2, c2, rfl, hL, hE1⟩
  have e0 := H.out.1
  simp only at hL e0 ⊢
  rw [e0] at hL ⊢
  have HE1 := Lib.hid (Ext.trans HE0.out hE1)
  have hA1 := HA.out.keep (hE1.block ga HA.out.lt)
  clear HA hE1 e0
  have hB : Blk (w1.alloc (.cells #[.int .i64 b, .slice A2 n c2] 33)) w1.heap.size 33 #[.int .i64 b, .slice A2 n c2] := Blk.new w1 33 _
  have hE2 : Ext w1 (w1.alloc (.cells #[.int .i64 b, .slice A2 n c2] 33)) := Ext.al Ext.rfl' _
  have HA := Lib.hid (hA1.alloc (.cells #[.int .i64 b, .slice A2 n c2] 33))
  have HB := Lib.hid hB
  have HE2 := Lib.hid (Ext.trans HE1.out hE2)
  have HL2 := Lib.hid (hL.below hE2)
  clear hA1 hB hL hE2
  have x0 : (w1.alloc (.cells #[.int .i64 b, .slice A2 n c2] 33)).cell? ⟨ga, 0, none⟩ = some (.int .i64 b) := by rw [HA.out.cell]; rfl
  have x1 : (w1.alloc (.cells #[.int .i64 b, .slice A2 n c2] 33)).cell? ⟨ga, 1, none⟩ = some (.slice A n c) := by rw [HA.out.cell]; rfl
  have y0 : (w1.alloc (.cells #[.int .i64 b, .slice A2 n c2] 33)).cell? ⟨w1.heap.size, 0, none⟩ = some (.int .i64 b) := by rw [HB.out.cell]; rfl
  have y1 : (w1.alloc (.cells #[.int .i64 b, .slice A2 n c2] 33)).cell? ⟨w1.heap.size, 1, none⟩ = some (.slice A2 n c2) := by rw [HB.out.cell]; rfl
  have e1 : (er == er) = true := by simp
  have e2 : (nx == nx) = true := by simp
  go_wp2_with fail
  refine (bt_sameb b xs A2 n c2 A c _ HL2.out (H.out.below HE2.out) hn).mono ?_
  rintro ee w3 ⟨rfl, hE3⟩
  have HE3 := Lib.hid (Ext.trans HE2.out hE3)
  clear x0 x1 y0 y1 hE3
  go_wp2_with fail
  go_ret
  exact ⟨rfl, HE3.out⟩
def exSt : List (Int × Int) := [(5, 1), (4, 3)]
def exBs : List (Int × Int) := [(4, 1000000), (4, 2)]
def exU : U := ⟨0, 2, 2, 2, 5, 3, 0, -1, exSt⟩
set_option maxRecDepth 100000 in
set_option maxHeartbeats 4000000 in
theorem bt_ex (w : World) : Calls Try.prog 12 #[] w fun e w' => ∃ A c, e = .returned (exU.val A 2 c) ∧ StepsAt w' A 2 exSt ∧ Ext w w' := by
  go_enter Try.func12, Try.ntmps12
  go_wp2_with fail
  have hsz : (w.alloc (.cells #[.int .i64 0, .int .i64 2, .slice (some ⟨w.heap.size + 1, 0, none⟩) 2 2, .int .i64 2, .int .i64 2, .int .i64 5, .int .i64 3, .int .i64 0, .int .i64 (-1)] 30)).heap.size = w.heap.size + 1 := by simp
  have hb := Blk.new (w.alloc (.cells #[.int .i64 0, .int .i64 2, .slice (some ⟨w.heap.size + 1, 0, none⟩) 2 2, .int .i64 2, .int .i64 2, .int .i64 5, .int .i64 3, .int .i64 0, .int .i64 (-1)] 30)) 40 #[.int .i64 5, .int .i64 1, .int .i64 4, .int .i64 3]
  have hc : Blk ((w.alloc (.cells #[.int .i64 0, .int .i64 2, .slice (some ⟨w.heap.size + 1, 0, none⟩) 2 2, .int .i64 2, .int .i64 2, .int .i64 5, .int .i64 3, .int .i64 0, .int .i64 (-1)] 30)).alloc (.cells #[.int .i64 5, .int .i64 1, .int .i64 4, .int .i64 3] 40)) w.heap.size 30 #[.int .i64 0, .int .i64 2, .slice (some ⟨w.heap.size + 1, 0, none⟩) 2 2, .int .i64 2, .int .i64 2, .int .i64 5, .int .i64 3, .int .i64 0, .int .i64 (-1)] := (Blk.new w 30 _).alloc _
  have hE : Ext w ((w.alloc (.cells #[.int .i64 0, .int .i64 2, .slice (some ⟨w.heap.size + 1, 0, none⟩) 2 2, .int .i64 2, .int .i64 2, .int .i64 5, .int .i64 3, .int .i64 0, .int .i64 (-1)] 30)).alloc (.cells #[.int .i64 5, .int .i64 1, .int .i64 4, .int .i64 3] 40)) := Ext.trans (Ext.al Ext.rfl' _) (Ext.al Ext.rfl' _)
  rw [hsz] at hb
  have c0 : ((w.alloc (.cells #[.int .i64 0, .int .i64 2, .slice (some ⟨w.heap.size + 1, 0, none⟩) 2 2, .int .i64 2, .int .i64 2, .int .i64 5, .int .i64 3, .int .i64 0, .int .i64 (-1)] 30)).alloc (.cells #[.int .i64 5, .int .i64 1, .int .i64 4, .int .i64 3] 40)).cell? ⟨w.heap.size, 0, none⟩ = some (.int .i64 0) := by rw [hc.cell]; rfl
  have c1 : ((w.alloc (.cells #[.int .i64 0, .int .i64 2, .slice (some ⟨w.heap.size + 1, 0, none⟩) 2 2, .int .i64 2, .int .i64 2, .int .i64 5, .int .i64 3, .int .i64 0, .int .i64 (-1)] 30)).alloc (.cells #[.int .i64 5, .int .i64 1, .int .i64 4, .int .i64 3] 40)).cell? ⟨w.heap.size, 1, none⟩ = some (.int .i64 2) := by rw [hc.cell]; rfl
  have c2 : ((w.alloc (.cells #[.int .i64 0, .int .i64 2, .slice (some ⟨w.heap.size + 1, 0, none⟩) 2 2, .int .i64 2, .int .i64 2, .int .i64 5, .int .i64 3, .int .i64 0, .int .i64 (-1)] 30)).alloc (.cells #[.int .i64 5, .int .i64 1, .int .i64 4, .int .i64 3] 40)).cell? ⟨w.heap.size, 2, none⟩ = some (.slice (some ⟨w.heap.size + 1, 0, none⟩) 2 2) := by rw [hc.cell]; rfl
  have c3 : ((w.alloc (.cells #[.int .i64 0, .int .i64 2, .slice (some ⟨w.heap.size + 1, 0, none⟩) 2 2, .int .i64 2, .int .i64 2, .int .i64 5, .int .i64 3, .int .i64 0, .int .i64 (-1)] 30)).alloc (.cells #[.int .i64 5, .int .i64 1, .int .i64 4, .int .i64 3] 40)).cell? ⟨w.heap.size, 3, none⟩ = some (.int .i64 2) := by rw [hc.cell]; rfl
  have c4 : ((w.alloc (.cells #[.int .i64 0, .int .i64 2, .slice (some ⟨w.heap.size + 1, 0, none⟩) 2 2, .int .i64 2, .int .i64 2, .int .i64 5, .int .i64 3, .int .i64 0, .int .i64 (-1)] 30)).alloc (.cells #[.int .i64 5, .int .i64 1, .int .i64 4, .int .i64 3] 40)).cell? ⟨w.heap.size, 4, none⟩ = some (.int .i64 2) := by rw [hc.cell]; rfl
  have c5 : ((w.alloc (.cells #[.int .i64 0, .int .i64 2, .slice (some ⟨w.heap.size + 1, 0, none⟩) 2 2, .int .i64 2, .int .i64 2, .int .i64 5, .int .i64 3, .int .i64 0, .int .i64 (-1)] 30)).alloc (.cells #[.int .i64 5, .int .i64 1, .int .i64 4, .int .i64 3] 40)).cell? ⟨w.heap.size, 5, none⟩ = some (.int .i64 5) := by rw [hc.cell]; rfl
  have c6 : ((w.alloc (.cells #[.int .i64 0, .int .i64 2, .slice (some ⟨w.heap.size + 1, 0, none⟩) 2 2, .int .i64 2, .int .i64 2, .int .i64 5, .int .i64 3, .int .i64 0, .int .i64 (-1)] 30)).alloc (.cells #[.int .i64 5, .int .i64 1, .int .i64 4, .int .i64 3] 40)).cell? ⟨w.heap.size, 6, none⟩ = some (.int .i64 3) := by rw [hc.cell]; rfl
  have c7 : ((w.alloc (.cells #[.int .i64 0, .int .i64 2, .slice (some ⟨w.heap.size + 1, 0, none⟩) 2 2, .int .i64 2, .int .i64 2, .int .i64 5, .int .i64 3, .int .i64 0, .int .i64 (-1)] 30)).alloc (.cells #[.int .i64 5, .int .i64 1, .int .i64 4, .int .i64 3] 40)).cell? ⟨w.heap.size, 7, none⟩ = some (.int .i64 0) := by rw [hc.cell]; rfl
  have c8 : ((w.alloc (.cells #[.int .i64 0, .int .i64 2, .slice (some ⟨w.heap.size + 1, 0, none⟩) 2 2, .int .i64 2, .int .i64 2, .int .i64 5, .int .i64 3, .int .i64 0, .int .i64 (-1)] 30)).alloc (.cells #[.int .i64 5, .int .i64 1, .int .i64 4, .int .i64 3] 40)).cell? ⟨w.heap.size, 8, none⟩ = some (.int .i64 (-1)) := by rw [hc.cell]; rfl
  refine bodyPost_ret (v := .agg #[.int .i64 0, .int .i64 2, .slice (some ⟨w.heap.size + 1, 0, none⟩) 2 2, .int .i64 2, .int .i64 2, .int .i64 5, .int .i64 3, .int .i64 0, .int .i64 (-1)]) (by simp [results, Try.results12, go_sem, c0, c1, c2, c3, c4, c5, c6, c7, c8]) rfl ?_
  refine ⟨_, _, rfl, ⟨rfl, fun _ => ⟨w.heap.size + 1, 0, rfl, hb.lt, fun i hi => ?_⟩⟩, hE⟩
  simp only [hb.cell]
  match i, hi with
  | 0, _ => exact ⟨rfl, rfl⟩
  | 1, _ => exact ⟨rfl, rfl⟩
set_option maxRecDepth 100000 in
set_option maxHeartbeats 4000000 in
theorem bt_exBid (w : World) : Calls Try.prog 9 #[] w fun e w' => ∃ A c, e = .returned (.agg #[.int .i64 1, .slice A 2 c]) ∧ StepsAt w' A 2 exBs ∧ Ext w w' := by
  go_enter Try.func9, Try.ntmps9
  go_wp2_with fail
  have hsz : (w.alloc (.cells #[.int .i64 1, .slice (some ⟨w.heap.size + 1, 0, none⟩) 2 2] 33)).heap.size = w.heap.size + 1 := by simp
  have hb := Blk.new (w.alloc (.cells #[.int .i64 1, .slice (some ⟨w.heap.size + 1, 0, none⟩) 2 2] 33)) 40 #[.int .i64 4, .int .i64 1000000, .int .i64 4, .int .i64 2]
  have hc : Blk ((w.alloc (.cells #[.int .i64 1, .slice (some ⟨w.heap.size + 1, 0, none⟩) 2 2] 33)).alloc (.cells #[.int .i64 4, .int .i64 1000000, .int .i64 4, .int .i64 2] 40)) w.heap.size 33 #[.int .i64 1, .slice (some ⟨w.heap.size + 1, 0, none⟩) 2 2] := (Blk.new w 33 _).alloc _
  have hE : Ext w ((w.alloc (.cells #[.int .i64 1, .slice (some ⟨w.heap.size + 1, 0, none⟩) 2 2] 33)).alloc (.cells #[.int .i64 4, .int .i64 1000000, .int .i64 4, .int .i64 2] 40)) := Ext.trans (Ext.al Ext.rfl' _) (Ext.al Ext.rfl' _)
  rw [hsz] at hb
  have c0 : ((w.alloc (.cells #[.int .i64 1, .slice (some ⟨w.heap.size + 1, 0, none⟩) 2 2] 33)).alloc (.cells #[.int .i64 4, .int .i64 1000000, .int .i64 4, .int .i64 2] 40)).cell? ⟨w.heap.size, 0, none⟩ = some (.int .i64 1) := by rw [hc.cell]; rfl
  have c1 : ((w.alloc (.cells #[.int .i64 1, .slice (some ⟨w.heap.size + 1, 0, none⟩) 2 2] 33)).alloc (.cells #[.int .i64 4, .int .i64 1000000, .int .i64 4, .int .i64 2] 40)).cell? ⟨w.heap.size, 1, none⟩ = some (.slice (some ⟨w.heap.size + 1, 0, none⟩) 2 2) := by rw [hc.cell]; rfl
  refine bodyPost_ret (v := .agg #[.int .i64 1, .slice (some ⟨w.heap.size + 1, 0, none⟩) 2 2]) (by simp [results, Try.results9, go_sem, c0, c1]) rfl ?_
  refine ⟨_, _, rfl, ⟨rfl, fun _ => ⟨w.heap.size + 1, 0, rfl, hb.lt, fun i hi => ?_⟩⟩, hE⟩
  simp only [hb.cell]
  match i, hi with
  | 0, _ => exact ⟨rfl, rfl⟩
  | 1, _ => exact ⟨rfl, rfl⟩
theorem ur_ext {x : UR} {u : U} {nx e : Int} (h : (x.u.bus = u.bus ∧ x.u.mn = u.mn ∧ x.u.up = u.up ∧ x.u.down = u.down ∧ x.u.start = u.start ∧ x.u.idle = u.idle ∧ x.u.spin = u.spin ∧ x.u.on = u.on ∧ x.u.steps = u.steps) ∧ x.nx = nx ∧ x.e = e) : x = ⟨u, nx, e⟩ := by
  obtain ⟨⟨a, b, c, d, f, g, i, j, k⟩, l, m⟩ := x
  obtain ⟨a', b', c', d', f', g', i', j', k'⟩ := u
  obtain ⟨⟨h1, h2, h3, h4, h5, h6, h7, h8, h9⟩, h10, h11⟩ := h
  simp only at h1 h2 h3 h4 h5 h6 h7 h8 h9 h10 h11
  subst h1 h2 h3 h4 h5 h6 h7 h8 h9 h10 h11
  rfl
theorem br_ext : ∀ {x : BR} {b nx e : Int} {xs : List (Int × Int)}, x.b = b ∧ x.xs = xs ∧ x.nx = nx ∧ x.e = e → x = ⟨b, xs, nx, e⟩
  | ⟨_, _, _, _⟩, _, _, _, _, ⟨rfl, rfl, rfl, rfl⟩ => rfl
theorem aw_s : unitT exU = ([40, 117, 110, 105, 116, 32, 48, 32, 50, 32, 50, 32, 50, 32, 53, 32, 51, 32, 48, 32, 45, 49, 32, 40, 53, 32, 49, 41, 32, 40, 52, 32, 51, 41, 41], 0) := by decide +kernel
theorem aw_t : bidT 1 exBs = ([40, 98, 105, 100, 32, 49, 32, 40, 52, 32, 49, 48, 48, 48, 48, 48, 48, 41, 32, 40, 52, 32, 50, 41, 41], 0) := by decide +kernel
theorem aw0 : unitR [40, 117, 110, 105, 116, 32, 48, 32, 50, 32, 50, 32, 50, 32, 53, 32, 51, 32, 48, 32, 45, 49, 32, 40, 53, 32, 49, 41, 32, 40, 52, 32, 51, 41, 41] 0 = ⟨exU, 35, 0⟩ := ur_ext (by decide +kernel)
theorem aw1 : bidR [40, 98, 105, 100, 32, 49, 32, 40, 52, 32, 49, 48, 48, 48, 48, 48, 48, 41, 32, 40, 52, 32, 50, 41, 41] 0 = ⟨1, exBs, 25, 0⟩ := br_ext (by decide +kernel)
theorem aw2 : unitR [40, 117, 110, 105, 116, 32, 48, 32, 50, 41] 0 = ⟨U0, 0, 3⟩ := ur_ext (by decide +kernel)
theorem aw3 : unitR [40, 117, 110, 105, 116, 32, 48, 32, 50, 32, 50, 32, 50, 32, 53, 32, 51, 32, 48, 32, 45, 49, 41] 0 = ⟨U0, 0, 4⟩ := ur_ext (by decide +kernel)
theorem aw4 : bidR [40, 98, 105, 100, 32, 49, 32, 40, 52, 32, 50, 41, 32, 40, 52, 32, 57, 41, 41] 0 = ⟨0, [], 0, 3⟩ := br_ext (by decide +kernel)
theorem aw5 : bidR [40, 98, 105, 100, 32, 49, 32, 40, 52, 32, 50, 41] 0 = ⟨0, [], 0, 4⟩ := br_ext (by decide +kernel)
theorem aw6 : bidR [40, 98, 105, 100, 32, 49, 47, 50, 32, 40, 52, 32, 50, 41, 41] 0 = ⟨0, [], 0, 1⟩ := br_ext (by decide +kernel)
set_option maxRecDepth 100000 in
set_option maxHeartbeats 16000000 in
theorem bt_awake (w : World) : Calls Try.prog 6 #[] w fun e w' => e = .returned (.bool true) ∧ Ext w w' := by
  go_enter Try.func6, Try.ntmps6
  go_wp2_with fail
  refine (bt_ex w).mono ?_
  rintro e w1 ⟨A, c, rfl, hL, hE⟩
  have HL := Lib.hid hL
  have HE1 := Lib.hid hE
  clear hL hE
  go_wp2_with fail
  have hf := bfmtunit_any exU A 2 c w1 HL.out (by omega)
  rw [aw_s] at hf
  refine hf.mono ?_
  clear hf
  rintro e w2 ⟨rfl, hE⟩
  have HE2 := Lib.hid (Ext.trans HE1.out hE)
  clear hE
  have hs1 : bs [40, 117, 110, 105, 116, 32, 48, 32, 50, 32, 50, 32, 50, 32, 53, 32, 51, 32, 48, 32, 45, 49, 32, 40, 53, 32, 49, 41, 32, 40, 52, 32, 51, 41, 41] = ⟨#[40, 117, 110, 105, 116, 32, 48, 32, 50, 32, 50, 32, 50, 32, 53, 32, 51, 32, 48, 32, 45, 49, 32, 40, 53, 32, 49, 41, 32, 40, 52, 32, 51, 41, 41]⟩ := rfl
  simp only [hs1]
  clear hs1
  go_wp2_with fail
  refine (bt_exBid w2).mono ?_
  rintro e w3 ⟨A2, c2, rfl, hL, hE⟩
  have HL2 := Lib.hid hL
  have HE3 := Lib.hid (Ext.trans HE2.out hE)
  clear hL hE
  go_wp2_with fail
  have hf := bfmtbid_any 1 exBs A2 2 c2 w3 HL2.out (by omega)
  rw [aw_t] at hf
  refine hf.mono ?_
  clear hf
  rintro e w4 ⟨rfl, hE⟩
  have HE4 := Lib.hid (Ext.trans HE3.out hE)
  clear hE
  have hs2 : bs [40, 98, 105, 100, 32, 49, 32, 40, 52, 32, 49, 48, 48, 48, 48, 48, 48, 41, 32, 40, 52, 32, 50, 41, 41] = ⟨#[40, 98, 105, 100, 32, 49, 32, 40, 52, 32, 49, 48, 48, 48, 48, 48, 48, 41, 32, 40, 52, 32, 50, 41, 41]⟩ := rfl
  simp only [hs2]
  clear hs2
  go_wp2_with fail
  refine (bt_ex w4).mono ?_
  rintro e w5 ⟨A4, c4, rfl, hL, hE⟩
  have HL4 := Lib.hid hL
  have HE5 := Lib.hid (Ext.trans HE4.out hE)
  clear hL hE
  go_wp2_with fail
  refine (bt_unit ⟨#[40, 117, 110, 105, 116, 32, 48, 32, 50, 32, 50, 32, 50, 32, 53, 32, 51, 32, 48, 32, 45, 49, 32, 40, 53, 32, 49, 41, 32, 40, 52, 32, 51, 41, 41]⟩ 0 exU A4 2 c4 35 0 w5 aw0 HL4.out (show (⟨#[40, 117, 110, 105, 116, 32, 48, 32, 50, 32, 50, 32, 50, 32, 53, 32, 51, 32, 48, 32, 45, 49, 32, 40, 53, 32, 49, 41, 32, 40, 52, 32, 51, 41, 41]⟩ : ByteArray).size ≤ maxLen by decide +kernel) (by omega)).mono ?_
  rintro e w6 ⟨rfl, hE⟩
  have HE6 := Lib.hid (Ext.trans HE5.out hE)
  clear hE
  go_wp2_with fail
  refine (bt_exBid w6).mono ?_
  rintro e w7 ⟨A6, c6, rfl, hL, hE⟩
  have HL6 := Lib.hid hL
  have HE7 := Lib.hid (Ext.trans HE6.out hE)
  clear hL hE
  go_wp2_with fail
  refine (bt_bid ⟨#[40, 98, 105, 100, 32, 49, 32, 40, 52, 32, 49, 48, 48, 48, 48, 48, 48, 41, 32, 40, 52, 32, 50, 41, 41]⟩ 0 1 exBs A6 2 c6 25 0 w7 aw1 HL6.out (show (⟨#[40, 98, 105, 100, 32, 49, 32, 40, 52, 32, 49, 48, 48, 48, 48, 48, 48, 41, 32, 40, 52, 32, 50, 41, 41]⟩ : ByteArray).size ≤ maxLen by decide +kernel) (by omega)).mono ?_
  rintro e w8 ⟨rfl, hE⟩
  have HE8 := Lib.hid (Ext.trans HE7.out hE)
  clear hE
  go_wp2_with fail
  refine (bt_unit ⟨#[40, 117, 110, 105, 116, 32, 48, 32, 50, 41]⟩ 0 U0 none 0 0 0 3 w8 aw2 (steps_none _) (show (⟨#[40, 117, 110, 105, 116, 32, 48, 32, 50, 41]⟩ : ByteArray).size ≤ maxLen by decide +kernel) (by omega)).mono ?_
  rintro e w9 ⟨rfl, hE⟩
  have HE9 := Lib.hid (Ext.trans HE8.out hE)
  clear hE
  go_wp2_with fail
  refine (bt_unit ⟨#[40, 117, 110, 105, 116, 32, 48, 32, 50, 32, 50, 32, 50, 32, 53, 32, 51, 32, 48, 32, 45, 49, 41]⟩ 0 U0 none 0 0 0 4 w9 aw3 (steps_none _) (show (⟨#[40, 117, 110, 105, 116, 32, 48, 32, 50, 32, 50, 32, 50, 32, 53, 32, 51, 32, 48, 32, 45, 49, 41]⟩ : ByteArray).size ≤ maxLen by decide +kernel) (by omega)).mono ?_
  rintro e w10 ⟨rfl, hE⟩
  have HE10 := Lib.hid (Ext.trans HE9.out hE)
  clear hE
  go_wp2_with fail
  refine (bt_bid ⟨#[40, 98, 105, 100, 32, 49, 32, 40, 52, 32, 50, 41, 32, 40, 52, 32, 57, 41, 41]⟩ 0 0 [] none 0 0 0 3 w10 aw4 (steps_none _) (show (⟨#[40, 98, 105, 100, 32, 49, 32, 40, 52, 32, 50, 41, 32, 40, 52, 32, 57, 41, 41]⟩ : ByteArray).size ≤ maxLen by decide +kernel) (by omega)).mono ?_
  rintro e w11 ⟨rfl, hE⟩
  have HE11 := Lib.hid (Ext.trans HE10.out hE)
  clear hE
  go_wp2_with fail
  refine (bt_bid ⟨#[40, 98, 105, 100, 32, 49, 32, 40, 52, 32, 50, 41]⟩ 0 0 [] none 0 0 0 4 w11 aw5 (steps_none _) (show (⟨#[40, 98, 105, 100, 32, 49, 32, 40, 52, 32, 50, 41]⟩ : ByteArray).size ≤ maxLen by decide +kernel) (by omega)).mono ?_
  rintro e w12 ⟨rfl, hE⟩
  have HE12 := Lib.hid (Ext.trans HE11.out hE)
  clear hE
  go_wp2_with fail
  refine (bt_bid ⟨#[40, 98, 105, 100, 32, 49, 47, 50, 32, 40, 52, 32, 50, 41, 41]⟩ 0 0 [] none 0 0 0 1 w12 aw6 (steps_none _) (show (⟨#[40, 98, 105, 100, 32, 49, 47, 50, 32, 40, 52, 32, 50, 41, 41]⟩ : ByteArray).size ≤ maxLen by decide +kernel) (by omega)).mono ?_
  rintro e w13 ⟨rfl, hE⟩
  have HE13 := Lib.hid (Ext.trans HE12.out hE)
  clear hE
  go_wp2_with fail
  go_ret
  exact ⟨rfl, HE13.out⟩
end Go.Proofs.Ytkdbpcenehhopaa

namespace Go.Proofs.Ytkdbpcenehhopaa
open Go.RowKit
/-- A unit in a block of its own. -/
def UBk (w : World) (g : Nat) (u : U) (A : Option Addr) (n c : Nat) : Prop := Blk w g 30 #[.int .i64 u.bus, .int .i64 u.mn, .slice A n c, .int .i64 u.up, .int .i64 u.down, .int .i64 u.start, .int .i64 u.idle, .int .i64 u.spin, .int .i64 u.on]
theorem UBk.new (w : World) (u : U) (A : Option Addr) (n c : Nat) : UBk (w.alloc (.cells #[.int .i64 u.bus, .int .i64 u.mn, .slice A n c, .int .i64 u.up, .int .i64 u.down, .int .i64 u.start, .int .i64 u.idle, .int .i64 u.spin, .int .i64 u.on] 30)) w.heap.size u A n c := Blk.new w 30 _
theorem UBk.ext {w w' : World} {g : Nat} {u : U} {A : Option Addr} {n c : Nat} (h : UBk w g u A n c) (hb : Ext w w') : UBk w' g u A n c := Blk.keep h (hb.block g (Blk.lt h))
theorem UBk.cells {w : World} {g : Nat} {u : U} {A : Option Addr} {n c : Nat} (h : UBk w g u A n c) : w.cell? ⟨g, 0, none⟩ = some (.int .i64 u.bus) ∧ w.cell? ⟨g, 1, none⟩ = some (.int .i64 u.mn) ∧ w.cell? ⟨g, 2, none⟩ = some (.slice A n c) ∧ w.cell? ⟨g, 3, none⟩ = some (.int .i64 u.up) ∧ w.cell? ⟨g, 4, none⟩ = some (.int .i64 u.down) ∧ w.cell? ⟨g, 5, none⟩ = some (.int .i64 u.start) ∧ w.cell? ⟨g, 6, none⟩ = some (.int .i64 u.idle) ∧ w.cell? ⟨g, 7, none⟩ = some (.int .i64 u.spin) ∧ w.cell? ⟨g, 8, none⟩ = some (.int .i64 u.on) := by
  unfold UBk at h
  exact ⟨by rw [h.cell]; rfl, by rw [h.cell]; rfl, by rw [h.cell]; rfl, by rw [h.cell]; rfl, by rw [h.cell]; rfl, by rw [h.cell]; rfl, by rw [h.cell]; rfl, by rw [h.cell]; rfl, by rw [h.cell]; rfl⟩
theorem size_list (S : ByteArray) : S.data.toList.length = S.size := rfl
theorem unit_cases (u : U) : (u.check 6 = 0 ∧ unitT u = (fmtT (unitToks u), 0)) ∨ (u.check 6 ≠ 0 ∧ unitT u = ([], u.check 6)) := by
  by_cases hc : u.check 6 = 0
  · exact .inl ⟨hc, by unfold unitT; rw [if_pos hc]⟩
  · exact .inr ⟨hc, by unfold unitT; rw [if_neg hc]⟩
theorem bid_cases (b : Int) (xs : List (Int × Int)) : (bidC b xs = 0 ∧ bidT b xs = (fmtT (bidToks b xs), 0)) ∨ (bidC b xs ≠ 0 ∧ bidT b xs = ([], bidC b xs)) := by
  by_cases hc : bidC b xs = 0
  · exact .inl ⟨hc, by unfold bidT; rw [if_pos hc]⟩
  · exact .inr ⟨hc, by unfold bidT; rw [if_neg hc]⟩
theorem unit_len {u : U} (hc : u.check 6 = 0) : (fmtT (unitToks u)).length ≤ 483 := by
  obtain ⟨hz, hi, h3⟩ := unit_zs hc
  have := unit_fmt_len hz hi
  omega
theorem bid_len {b : Int} {xs : List (Int × Int)} (hc : bidC b xs = 0) : (fmtT (bidToks b xs)).length ≤ 336 := by
  obtain ⟨hz, hi, h3⟩ := bid_zs hc
  have := bid_fmt_len hz hi
  omega
theorem unit_read {u : U} (hc : u.check 6 = 0) (pre rest : Bs) (hl : (pre ++ (fmtT (unitToks u) ++ rest)).length ≤ 65536) : unitR (pre ++ (fmtT (unitToks u) ++ rest)) pre.length = ⟨u, ((pre.length + (fmtT (unitToks u)).length : Nat) : Int), 0⟩ := by
  obtain ⟨hz, hi, -⟩ := unit_zs hc
  rw [unit_back pre rest hz hi hl]
  unfold unitEnd
  rw [if_neg (by simp), if_neg (by rw [hc]; simp)]
theorem bid_read {b : Int} {xs : List (Int × Int)} (hc : bidC b xs = 0) (pre rest : Bs) (hl : (pre ++ (fmtT (bidToks b xs) ++ rest)).length ≤ 65536) : bidR (pre ++ (fmtT (bidToks b xs) ++ rest)) pre.length = ⟨b, xs, ((pre.length + (fmtT (bidToks b xs)).length : Nat) : Int), 0⟩ := by
  obtain ⟨hz, hi, -⟩ := bid_zs hc
  rw [bid_back pre rest hz hi hl]
  unfold bidEnd
  rw [if_neg (by simp), if_neg (by rw [hc]; simp)]
end Go.Proofs.Ytkdbpcenehhopaa
