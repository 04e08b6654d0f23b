/- Contracts of whole.scaleWords and whole.Parse. Printed by gen_txs.py. -/
import Derived.Test.YtnofbjcikfofgaaGreatTxZ
namespace Go.Proofs.YtnofbjcikfofgaaGreat
open Go.RowKit

theorem rown_nil (w : World) (B e size : Nat) : w.ownsRow B e size (.slice none 0 0) 0 [] := ⟨by simp, .inl ⟨rfl, rfl⟩⟩
/-- Words that the call owns: nil, or a row of its own. -/
def RowW (w : World) (B : Nat) (v : Value) (n : Nat) (xs : List Nat) : Prop := w.ownsRow B 117 1 v n (u32s xs)
theorem scale_step {xs cur : List Nat} {k cc F add x : Nat} (hx : xs.getD k 0 = x) (hk : k < cur.length) (hl : cur.length = xs.length) (h : natOf (cur.take k) + 4294967296 ^ k * cc = natOf (xs.take k) * F + add) :
    natOf ((cur.set k ((x * F + cc) % 4294967296)).take (k + 1)) + 4294967296 ^ (k + 1) * ((x * F + cc) / 4294967296) = natOf (xs.take (k + 1)) * F + add := by
  have e1 : (cur.set k ((x * F + cc) % 4294967296)).take (k + 1) = cur.take k ++ [(x * F + cc) % 4294967296] := by
    rw [List.take_set, List.take_succ_eq_append_getElem hk, List.set_append_right _ _ (by rw [List.length_take]; omega)]
    have : k - (cur.take k).length = 0 := by rw [List.length_take]; omega
    rw [this]
    rfl
  have hlen : (cur.take k).length = k := by rw [List.length_take]; omega
  rw [e1, natOf_snoc, hlen, natOf_take_succ, hx, Nat.pow_succ]
  have e : (x * F + cc) % 4294967296 + 4294967296 * ((x * F + cc) / 4294967296) = x * F + cc := Nat.mod_add_div _ _
  rw [Nat.add_mul, Nat.mul_assoc _ x F]
  generalize (x * F + cc) % 4294967296 = r at *
  generalize (x * F + cc) / 4294967296 = q at *
  generalize x * F = p at *
  generalize (4294967296 : Nat) ^ k = R at *
  have h3 : R * r + R * (4294967296 * q) = R * p + R * cc := by rw [← Nat.mul_add, e, Nat.mul_add]
  rw [Nat.mul_assoc]
  omega
set_option maxRecDepth 100000 in
set_option maxHeartbeats 4000000 in
theorem scale_nil (B F add : Nat) (w : World) (hB : B ≤ w.heap.size) (ha : add < 4294967296) :
    Calls Tryz.prog 101 #[.slice none 0 0, .int .u64 (F : Int), .int .u64 (add : Int)] w fun e w' => ∃ v, e = .returned v ∧ RowW w' B v 1 [add] ∧ Ext w w' := by
  obtain ⟨i0, hi, hz0, hz1, hz2⟩ := info_parts info_u32
  go_enter Tryz.func101, Tryz.ntmps101
  go_wp2_with fail
  refine (carrier_any add _).mono ?_
  rintro e w1 ⟨rfl, rfl⟩
  have g0 := (Boxed.new w 115 (.int .u64 (add : Int))).cell
  have g1 := (Boxed.new w 115 (.int .u64 (add : Int))).frozen
  have hE : Ext w (w.alloc (.cells #[.int .u64 (add : Int)] 115)) := Ext.al Ext.rfl' _
  generalize w.alloc (.cells #[.int .u64 (add : Int)] 115) = w1 at *
  go_wp2_with fail
  go_loopw [8, 9, 14] (fun _ _ i wr => i = .int .i64 0 ∧ wr = w1) (fun _ _ _ _ => 0)
  case atStart => exact ⟨rfl, rfl⟩
  case round =>
    obtain ⟨rfl, rfl⟩ := hrel
    go_wp2_with fail
    refine (next_any w.heap.size 0 add 0 _ rfl (by omega) g0 g1).mono ?_
    rintro e w2 ⟨rfl, rfl⟩
    obtain ⟨xn, hxn⟩ : ∃ xn, (0 + add) % 4294967296 = xn := ⟨_, rfl⟩
    have HXN : Hid (xn = add) := by unfold Hid; omega
    rw [hxn]
    clear hxn g0 g1
    have hE2 : Ext w (wr.setCell ⟨w.heap.size, 0, none⟩ (.int .u64 ((0 + add) / 4294967296 : Nat))) := Below.setCell hE (p := ⟨w.heap.size, 0, none⟩) (Nat.le_refl _) _
    generalize wr.setCell ⟨w.heap.size, 0, none⟩ (.int .u64 ((0 + add) / 4294967296 : Nat)) = w3 at *
    clear hE
    go_wp2_with (at_builtin
                 refine wpList_append_own _ rfl (.tmp 29) (.tmp 32) 47 rfl B 117 i0 _ 1 4 Tryz.underlying47 hi hz0 hz1 hz2 rfl (by omega) _ 0 [] rfl (rown_nil _ _ _ _) ⟨w3.heap.size, 0, none⟩ 1 1 [.int .u32 (xn : Int)] rfl rfl (World.news_of_block (cs := #[.int .u32 (xn : Int)]) (t := 117) (fr := (0, 0)) (World.alloc_heap_new w3 _)) (by simp [Value.oneCell']) (by simp [maxLen]) (by omega) (by have := hE2.size; simp; omega) ?_
                 intro v3 w4 hown hg hv3
                 have HO := Lib.hid hown
                 have HG := Lib.hid hg
                 clear hown hg hv3)
    go_ret
    refine ⟨v3, rfl, ?_, ext_grownW (Ext.al hE2 _) HG.out (fun g e => by cases e)⟩
    have := HO.out
    rw [HXN.out] at this
    exact this

set_option maxRecDepth 100000 in
set_option maxHeartbeats 4000000 in
theorem scale_row (B g n c : Nat) (xs : List Nat) (F add : Nat) (w : World) (h : OwnW w B g n c xs) (hB : B ≤ w.heap.size) (hw : Words xs) (hn : n ≤ 1073741824) (hn0 : 0 < n) (hF : F ≤ 1000000000) (ha : add < 4294967296) :
    Calls Tryz.prog 101 #[.slice (some ⟨g, 0, none⟩) n c, .int .u64 (F : Int), .int .u64 (add : Int)] w fun e w' => ∃ v ys, e = .returned v ∧ RowW w' B v (n + 1) ys ∧ Words ys ∧ natOf ys = natOf xs * F + add ∧ Below B w w' ∧ w.heap.size ≤ w'.heap.size := by
  obtain ⟨i0, hi, hz0, hz1, hz2⟩ := info_parts info_u32
  have HL := Lib.hid h.len
  have hgb := h.lt
  go_enter Tryz.func101, Tryz.ntmps101
  go_wp2_with fail
  refine (carrier_any add _).mono ?_
  rintro e w1 ⟨rfl, rfl⟩
  have k0 := Boxed.new w 115 (.int .u64 (add : Int))
  have hO : OwnW (w.alloc (.cells #[.int .u64 (add : Int)] 115)) B g n c xs := h.ext (Ext.al Ext.rfl' _)
  have hE : Below B w (w.alloc (.cells #[.int .u64 (add : Int)] 115)) := (Below.refl B w).alloc hB _
  obtain ⟨gb, hgB⟩ : ∃ gb, w.heap.size = gb := ⟨_, rfl⟩
  rw [hgB] at k0 hgb hB ⊢
  have HSZ := Lib.hid hgB
  clear hgB h
  generalize w.alloc (.cells #[.int .u64 (add : Int)] 115) = w1 at *
  have K0 := Lib.hid k0
  have KO := Lib.hid hO
  have KE := Lib.hid hE
  clear k0 hO hE
  obtain ⟨hg1, hg2⟩ := hgb
  go_wp2_with fail
  go_loopw [8, 9, 14] (fun _ _ i wr => ∃ (k cc : Nat) (cur : List Nat), k ≤ n ∧ i = .int .i64 (k : Int) ∧ cc < 4294967296 ∧ Hid (OwnW wr B g n c cur) ∧ Hid (Words cur) ∧ Hid (Boxed wr gb 115 (.int .u64 (cc : Int))) ∧ Hid (∀ j, k ≤ j → cur.getD j 0 = xs.getD j 0) ∧ Hid (natOf (cur.take k) + 4294967296 ^ k * cc = natOf (xs.take k) * F + add) ∧ Hid (Below B w wr)) (fun _ _ i _ => n - (intOf i).toNat)
  case atStart => exact ⟨0, add, xs, by omega, rfl, ha, KO, hw, K0, fun _ _ => rfl, by simp [Hid, natOf], KE⟩
  case round =>
    obtain ⟨k, cc, cur, hk, rfl, hcc, HO, HW, HC, HS, HV, HE⟩ := hrel
    have g0 := HC.out.cell
    have g1 := HC.out.frozen
    have hgw := HO.out.lt.1
    have hgbw := HC.out.lt
    by_cases hlt : k < n
    · have hbv : decide (k < n) = true := by simp; omega
      have hbv2 : decide ((k : Int) < (n : Int)) = true := by simp; omega
      have hz0' : (0 : Int) ≤ (k : Int) := by omega
      have hzn : (k : Int) < (n : Int) := by omega
      have cX := HO.out.cell hlt
      rw [HS.out k (Nat.le_refl _)] at cX
      have hxk := hw.getD k
      have HST := Lib.hid (fun (x : Nat) (hx : xs.getD k 0 = x) => scale_step (F := F) hx (by rw [HO.out.len]; exact hlt) (by rw [HO.out.len, HL.out]) HV.out)
      obtain ⟨x, hx⟩ : ∃ x, xs.getD k 0 = x := ⟨_, rfl⟩
      have HST2 := Lib.hid (HST.out x hx)
      rw [hx] at cX hxk
      clear hx HST
      have hq1 : x * F ≤ 4294967295 * 1000000000 := Nat.mul_le_mul (by omega) hF
      obtain ⟨q, hq⟩ : ∃ q, x * F = q := ⟨_, rfl⟩
      rw [hq] at hq1 HST2
      have hqz : (x : Int) * (F : Int) = (q : Int) := by rw [← hq]; simp
      clear hq
      go_wp2_with fail
      refine (next_any gb q cc (q : Int) wr rfl (by omega) g0 g1).mono ?_
      rintro e w2 ⟨rfl, rfl⟩
      obtain ⟨xn, hxn⟩ : ∃ xn, (q + cc) % 4294967296 = xn := ⟨_, rfl⟩
      obtain ⟨cn, hcn⟩ : ∃ cn, (q + cc) / 4294967296 = cn := ⟨_, rfl⟩
      have hcn2 : cn < 4294967296 := by omega
      have hxn2 : xn < 4294967296 := by omega
      rw [hxn, hcn] at HST2
      rw [hcn, hxn]
      have HO1 := Lib.hid (HO.out.far (p := ⟨gb, 0, none⟩) (by simp; omega) (.int .u64 (cn : Int)))
      have HC1 := Lib.hid (HC.out.set (.int .u64 (cn : Int)))
      have HE1 := Lib.hid (Below.setCell HE.out (p := ⟨gb, 0, none⟩) hB (.int .u64 (cn : Int)))
      clear hxn hcn g0 g1 HO HC HE cX
      generalize wr.setCell ⟨gb, 0, none⟩ (.int .u64 (cn : Int)) = W1 at *
      have cX := HO1.out.cell hlt
      have cF := HO1.out.frozen k
      have HO2 := Lib.hid (HO1.out.put k xn)
      have HC2 := Lib.hid (boxed_far HC1.out (p := ⟨g, k, none⟩) (by simp; omega) (.int .u32 (xn : Int)))
      have HE2 := Lib.hid (Below.setCell HE1.out (p := ⟨g, k, none⟩) hg2 (.int .u32 (xn : Int)))
      have HW2 := Lib.hid (HW.out.set k hxn2)
      have HS2 : Hid (∀ j, k + 1 ≤ j → (cur.set k xn).getD j 0 = xs.getD j 0) := fun j hj => by
        rw [getD_set_other (by omega)]
        exact HS.out j (by omega)
      clear HS
      go_wp2_with fail
      go_roundw
      case rel => exact ⟨k + 1, cn, cur.set k xn, by omega, by go_num, hcn2, HO2, HW2, HC2, HS2, HST2, HE2⟩
      case measure => simp [intOf]; omega
    · obtain rfl : k = n := by omega
      have hbv : decide (k < k) = false := by simp
      go_wp2_with fail
      refine (next_any gb 0 cc 0 wr rfl (by omega) g0 g1).mono ?_
      rintro e w2 ⟨rfl, rfl⟩
      obtain ⟨xn, hxn⟩ : ∃ xn, (0 + cc) % 4294967296 = xn := ⟨_, rfl⟩
      obtain ⟨cn, hcn⟩ : ∃ cn, (0 + cc) / 4294967296 = cn := ⟨_, rfl⟩
      have hxn2 : xn < 4294967296 := by omega
      have HXN : Hid (xn = cc) := by unfold Hid; omega
      rw [hcn, hxn]
      have HO1 := Lib.hid (HO.out.far (p := ⟨gb, 0, none⟩) (by simp; omega) (.int .u64 (cn : Int)))
      have hE1 : Below B w (wr.setCell ⟨gb, 0, none⟩ (.int .u64 (cn : Int))) := Below.setCell HE.out (p := ⟨gb, 0, none⟩) hB _
      have hs1 : gb < (wr.setCell ⟨gb, 0, none⟩ (.int .u64 (cn : Int))).heap.size := by simpa [World.setCell] using hgbw
      clear hxn hcn g0 g1 HO HC HE
      generalize wr.setCell ⟨gb, 0, none⟩ (.int .u64 (cn : Int)) = W1 at *
      have HE1 := Lib.hid hE1
      clear hE1
      go_wp2_with (at_builtin
                   refine wpList_append_own _ rfl (.tmp 29) (.tmp 32) 47 rfl B 117 i0 _ 1 4 Tryz.underlying47 hi hz0 hz1 hz2 rfl (by omega) _ k (u32s cur) rfl (own_keep HO1.out (fun g hg => Below.heap_alloc W1 _ g (own_lt HO1.out hg).1)) ⟨W1.heap.size, 0, none⟩ 1 1 [.int .u32 (xn : Int)] rfl rfl (World.news_of_block (cs := #[.int .u32 (xn : Int)]) (t := 117) (fr := (0, 0)) (World.alloc_heap_new W1 _)) (by simp [Value.oneCell']) (by simp [maxLen]; omega) (by omega) (by simp; omega) ?_
                   intro v3 w4 hown hg hv3
                   rw [← u32s_snoc] at hown
                   have HO := Lib.hid hown
                   have HG := Lib.hid hg
                   clear hown hg hv3)
      go_ret
      refine ⟨v3, cur ++ [xn], rfl, HO.out, HW.out.append (Words.cons hxn2 Words.nil), ?_, Below.grown (HE1.out.alloc (by omega) _) HG.out (by simp; omega) (fun k hk => ?_), ?_⟩
      · have := HV.out
        rw [List.take_of_length_le (by rw [HO1.out.len]; exact Nat.le_refl _), List.take_of_length_le (by rw [HL.out]; exact Nat.le_refl _)] at this
        rw [natOf_snoc, HO1.out.len, HXN.out, this]
      · cases hk
        exact hg2
      · have := HG.out.size
        rw [HSZ.out]
        simp at this
        omega

theorem scale_any (B n : Nat) (v : Value) (xs : List Nat) (F add : Nat) (w : World) (h : RowW w B v n xs) (hB : B ≤ w.heap.size) (hw : Words xs) (hn : n ≤ 1073741824) (h0 : 0 < n ∨ v = .slice none 0 0) (hF : F ≤ 1000000000) (ha : add < 4294967296) :
    Calls Tryz.prog 101 #[v, .int .u64 (F : Int), .int .u64 (add : Int)] w fun e w' => ∃ v ys, e = .returned v ∧ RowW w' B v (n + 1) ys ∧ Words ys ∧ natOf ys = natOf xs * F + add ∧ Below B w w' ∧ w.heap.size ≤ w'.heap.size := by
  by_cases hn0 : 0 < n
  · rcases h.2 with ⟨rfl, rfl⟩ | ⟨g, cap, cur, rfl, hg, _⟩
    · omega
    · exact scale_row B g n cap xs F add w h hB hw hn hn0 hF ha
  · obtain rfl : n = 0 := by omega
    obtain rfl := h0.resolve_left hn0
    have hxs : xs = [] := List.length_eq_zero_iff.1 (by have := h.1; simpa [u32s] using this)
    subst hxs
    refine (scale_nil B F add w hB ha).mono ?_
    rintro e w' ⟨v, rfl, hr, hE⟩
    exact ⟨v, [add], rfl, hr, Words.cons ha Words.nil, by simp [natOf], hE.mono hB, hE.size⟩

end Go.Proofs.YtnofbjcikfofgaaGreat
