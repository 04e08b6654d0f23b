/- A part of the proof. -/
import Derived.Test.YtjinpfnefeiooaaGreatMulW
import Derived.Test.YtjinpfnefeiooaaGreatAddW
namespace Go.Proofs.YtjinpfnefeiooaaGreat
open Go.RowKit

def WW (w : World) (b off n : Nat) (xs : List Nat) : Prop :=
 xs.length = n ∧ Words xs ∧ b < w.heap.size ∧ (∀ i, i < n → w.cell? ⟨b, off + i, none⟩ = some (.int .u32 (xs.getD i 0 : Nat))) ∧ ∀ i, w.frozen? ⟨b, off + i, none⟩ = false
theorem WW.words {w : World} {b off n : Nat} {xs : List Nat} (h : WW w b off n xs) : WordsAt w (some ⟨b, off, none⟩) n xs := ⟨h.1, h.2.1, fun _ => ⟨b, off, rfl, h.2.2.1, h.2.2.2.1⟩⟩
theorem WW.put {w : World} {b off n : Nat} {xs : List Nat} (h : WW w b off n xs) {j : Nat} (hj : j < n) {v : Nat} (hv : v < 4294967296) : WW (w.setCell ⟨b, off + j, none⟩ (.int .u32 (v : Int))) b off n (xs.set j v) := by
 obtain ⟨h1, h2, h3, h4, h5⟩ := h
 refine ⟨by simp [h1], h2.set _ hv, by simpa [World.setCell] using h3, fun i hi => ?_, fun i => by rw [World.frozen?_setCell]; exact h5 i⟩
 by_cases e : i = j
 ·subst e
  rw [World.cell?_setCell_same' _ _ _ (by rw [h4 i hi]; rfl)]
  simp [List.getD, h1, hi]
 ·rw [getD_set_other e, ← h4 i hi]
  exact World.cell?_setCell_other _ _ _ _ (by intro hh; injection hh; omega)
theorem WW.keep {w w' : World} {b off n : Nat} {xs : List Nat} (h : WW w b off n xs) (hb : w'.heap[b]? = w.heap[b]?) : WW w' b off n xs := by
 obtain ⟨h1, h2, h3, h4, h5⟩ := h
 have hlt : b < w'.heap.size := by
  rcases Nat.lt_or_ge b w'.heap.size with hl | hl
  ·exact hl
  ·rw [Array.getElem?_eq_none hl] at hb
   rw [Array.getElem?_eq_getElem h3] at hb
   cases hb
 exact ⟨h1, h2, hlt, fun i hi => (World.cell?_of_block hb).trans (h4 i hi), fun i => (World.frozen?_of_block hb).trans (h5 i)⟩
theorem WW.ext {w w' : World} {b off n : Nat} {xs : List Nat} (h : WW w b off n xs) (hb : Ext w w') : WW w' b off n xs := h.keep (hb.block b h.2.2.1)
theorem WW.far {w : World} {b off n : Nat} {xs : List Nat} (h : WW w b off n xs) {p : Addr} (hp : b ≠ p.block) (v : Value) : WW (w.setCell p v) b off n xs := h.keep (Below.heap_setCell w p v b hp)
theorem WW.sub {w : World} {b off n : Nat} {xs : List Nat} (h : WW w b off n xs) (k m : Nat) (hk : k + m ≤ n) : WW w b (off + k) m ((xs.drop k).take m) := by
 obtain ⟨h1, h2, h3, h4, h5⟩ := h
 refine ⟨by simp [h1]; omega, (h2.drop k).take m, h3, fun i hi => ?_, fun i => by rw [Nat.add_assoc]; exact h5 (k + i)⟩
 rw [Nat.add_assoc, h4 (k + i) (by omega), getD_take hi]
 simp [List.getD]
theorem OwnW.ww {w : World} {B g n c : Nat} {xs : List Nat} (h : OwnW w B g n c xs) (hw : Words xs) : WW w g 0 n xs :=
 ⟨h.len, hw, h.lt.1, fun i hi => by rw [Nat.zero_add]; exact h.cell hi, fun i => h.frozen _⟩
theorem NewW.ww {w : World} {B n c : Nat} {A : Option Addr} {xs : List Nat} (h : NewW w B A n c xs) (hn : 0 < n) : ∃ b off, A = some ⟨b, off, none⟩ ∧ B ≤ b ∧ WW w b off n xs := by
 obtain ⟨b, off, e, hlt, hc⟩ := h.1.2.2 hn
 obtain ⟨b', off', e', hB, _, hf⟩ := h.2.2.2 _ e
 injection e' with e1 e2
 subst e1
 subst e2
 exact ⟨b, off, e, hB, h.1.1, h.1.2.1, hlt, hc, hf⟩
theorem WW.new {w : World} {b off n c B : Nat} {xs : List Nat} (h : WW w b off n xs) (hc : n ≤ c) (hm : c ≤ maxLen) (hB : B ≤ b) : NewW w B (some ⟨b, off, none⟩) n c xs :=
 ⟨h.words, hc, hm, fun ad ha => by injection ha with ha; subst ha; exact ⟨b, off, rfl, hB, h.2.2.1, h.2.2.2.2⟩⟩
theorem grown_put {w w1 : World} {b : Nat} (h : w.grownBy w1 (some b)) (o : Nat) (v : Value) : w.grownBy (w1.setCell ⟨b, o, none⟩ v) (some b) :=
 ⟨h.os, h.tape, h.output, by simpa [World.setCell] using h.size, fun k hk hne => (Below.heap_setCell w1 ⟨b, o, none⟩ v k (by intro e; subst e; exact hne rfl)).trans (h.block k hk hne)⟩
theorem grown_refl (w : World) (r : Option Nat) : w.grownBy w r := World.grownBy.refl w r
theorem or_high (r x : Nat) (hr : r < 4294967296) (hx : x < 4294967296) : bits .or .u64 ((r : Int) * 4294967296) (x : Int) = ((4294967296 * r + x : Nat) : Int) := by
 rw [show ((r : Int) * 4294967296) = ((4294967296 * r : Nat) : Int) by omega, u64_or_nat _ _ (by omega) (by omega), nat_join 32 (4294967296 * r) x (by rw [show (2 : Nat) ^ 32 = 4294967296 from rfl]; omega) (by rw [show (2 : Nat) ^ 32 = 4294967296 from rfl]; exact hx)]
theorem short_step {xs cur : List Nat} {i d r : Nat} (hi : i < xs.length) (hl : cur.length = xs.length) (hd : natOf (xs.drop (i + 1)) = d * natOf (cur.drop (i + 1)) + r) (_ : 0 < d) :
  natOf (xs.drop i) = d * natOf ((cur.set i ((4294967296 * r + xs.getD i 0) / d)).drop i) + (4294967296 * r + xs.getD i 0) % d := by
 have e : (cur.set i ((4294967296 * r + xs.getD i 0) / d)).drop i = (4294967296 * r + xs.getD i 0) / d :: cur.drop (i + 1) := by
  rw [drop_cons (by simp; omega), List.drop_set_of_lt (by omega)]
  simp [List.getD, show i < cur.length by omega]
 rw [e, drop_cons hi]
 simp only [natOf]
 rw [hd]
 generalize natOf (cur.drop (i + 1)) = Q at *
 have h1 := Nat.div_add_mod (4294967296 * r + xs.getD i 0) d
 generalize (4294967296 * r + xs.getD i 0) / d = q at *
 generalize (4294967296 * r + xs.getD i 0) % d = s at *
 rw [Nat.mul_add, Nat.mul_add, ← Nat.mul_assoc d 4294967296 Q, Nat.mul_comm d 4294967296, Nat.mul_assoc]
 omega
set_option maxRecDepth 100000 in
set_option maxHeartbeats 2000000 in
theorem shortDiv_any (b off n c : Nat) (xs : List Nat) (d : Nat) (w : World) (h : WW w b off n xs) (hn : n ≤ 1073741824) (hd0 : 0 < d) (hd1 : d < 4294967296) :
  Calls Tryz.prog 140 #[.slice (some ⟨b, off, none⟩) n c, .int .u64 (d : Int)] w fun e w' => e = .returned (.int .u64 (natOf xs % d : Nat)) ∧ (∃ qs, WW w' b off n qs ∧ natOf qs = natOf xs / d) ∧ w.grownBy w' (some b) := by
 have hwx := h.2.1
 have HL := LH h.1
 have H0 := LH h
 clear h
 go_enter Tryz.func140, Tryz.ntmps140
 go_wp2_with fail
 go_loopw [5, 6] (fun r i wr => ∃ (k rr : Nat) (cur : List Nat), k ≤ n ∧ i = .int .i64 ((k : Int) - 1) ∧ r = .int .u64 rr ∧ rr < d ∧ Hid (WW wr b off n cur) ∧ Hid (∀ j, j < k → cur.getD j 0 = xs.getD j 0) ∧ Hid (natOf (xs.drop k) = d * natOf (cur.drop k) + rr) ∧ Hid (w.grownBy wr (some b))) (fun _ i _ => (intOf i + 1).toNat)
 case atStart => exact ⟨n, 0, xs, Nat.le_refl _, rfl, rfl, hd0, H0, fun _ _ => rfl, by unfold Hid; rw [List.drop_eq_nil_of_le (by rw [HL.out]; exact Nat.le_refl _)]; simp [natOf], grown_refl _ _⟩
 case round =>
  obtain ⟨k, rr, cur, hk, rfl, rfl, hrr, HW, HS, HV, HG⟩ := hrel
  by_cases h0 : k = 0
  ·subst h0
   have hb : decide ((0 : Int) ≤ ((0 : Nat) : Int) - 1) = false := by simp
   have hb2 : decide ((1 : Int) ≤ ((0 : Nat) : Int)) = false := by simp
   have HR : Hid (natOf xs / d = natOf cur ∧ natOf xs % d = rr) := by
    have := HV.out
    simp only [List.drop_zero] at this
    unfold Hid
    rw [this]
    exact ⟨by rw [Nat.mul_add_div hd0, Nat.div_eq_of_lt hrr, Nat.add_zero], by rw [Nat.mul_add_mod, Nat.mod_eq_of_lt hrr]⟩
   go_wp2_with fail
   go_ret
   exact ⟨ret_u64 (by rw [HR.out.2]), ⟨cur, HW.out, HR.out.1.symm⟩, HG.out⟩
  ·obtain ⟨i, rfl⟩ : ∃ i, k = i + 1 := ⟨k - 1, by omega⟩
   clear h0
   rw [show (((i + 1 : Nat) : Int) - 1) = (i : Int) by omega]
   have c1 := HW.out.2.2.2.1 i (by omega)
   have c2 := HW.out.2.2.2.2 i
   rw [HS.out i (by omega)] at c1
   have hxi := hwx.getD i
   have h01 : (0 : Int) ≤ (i : Int) := by omega
   have h02 : (i : Int) < (n : Int) := by omega
   have HST := LH (short_step (xs := xs) (cur := cur) (i := i) (by rw [HL.out]; omega) (by rw [HL.out, HW.out.1]) HV.out hd0)
   generalize xs.getD i 0 = x at *
   have hor := or_high rr x (by omega) hxi
   obtain ⟨X, hX⟩ : ∃ X, 4294967296 * rr + x = X := ⟨_, rfl⟩
   have hXb : X < 18446744073709551616 := by omega
   have hXd : X < d * 4294967296 := by
    have : (rr + 1) * 4294967296 ≤ d * 4294967296 := Nat.mul_le_mul_right _ hrr
    omega
   have hq : X / d < 4294967296 := Nat.div_lt_of_lt_mul hXd
   have hr : X % d < d := Nat.mod_lt _ hd0
   rw [hX] at hor HST
   obtain ⟨q, hq0⟩ : ∃ q, X / d = q := ⟨_, rfl⟩
   obtain ⟨s, hs0⟩ : ∃ s, X % d = s := ⟨_, rfl⟩
   have hqz : (X : Int) / (d : Int) = (q : Int) := by rw [← hq0]; simp
   have hsz : (X : Int) % (d : Int) = (s : Int) := by rw [← hs0]; simp
   rw [hq0] at HST hq
   rw [hs0] at HST hr
   clear hX hXd hq0 hs0
   have hsb : b < wr.heap.size := HW.out.2.2.1
   go_wp2_with fail
   go_roundw
   case rel =>
    refine ⟨i, s, cur.set i q, by omega, by go_num, congrArg (Value.int .u64) hsz, hr, HW.out.put (by omega) hq, fun j hj => ?_, HST, grown_put HG.out _ _⟩
    rw [getD_set_other (by omega)]
    exact HS.out j (by omega)
   case measure => simp [intOf]
end Go.Proofs.YtjinpfnefeiooaaGreat
namespace Go.Proofs.YtjinpfnefeiooaaGreat
open Go.RowKit

set_option maxRecDepth 100000 in
set_option maxHeartbeats 2000000 in
theorem shiftLeft_any (A : Option Addr) (n c : Nat) (xs : List Nat) (sh : Nat) (w : World) (h : WordsAt w A n xs) (hn : n ≤ 1073741824) (hs : sh ≤ 31) :
    Calls Tryz.prog 146 #[.slice A n c, .int .u64 (sh : Int)] w fun e w' => ∃ S, e = .returned (.slice (some ⟨w.heap.size + 1, 0, none⟩) (n + 1) (n + 1)) ∧ natOf S = natOf xs * 2 ^ sh ∧ OwnW w' w.heap.size (w.heap.size + 1) (n + 1) (n + 1) S ∧ Words S ∧ Ext w w' := by
  obtain ⟨i0, hi, hz0, hz1, hz2⟩ := info_parts info_u32
  have hmk := make_words (n + 1) (by omega) ((n : Int) + 1) (by omega)
  have HX := LH h
  have hwx := h.2.1
  clear h
  go_enter Tryz.func146, Tryz.ntmps146
  go_wp2_with fail
  refine (carrier_any 0 _).mono ?_
  rintro e w1 ⟨rfl, rfl⟩
  go_wp2_with fail
  have k0 := (Boxed.new w 97 (.int .u64 ((0 : Nat) : Int))).alloc (.cells (zeros32 (n + 1)) 44)
  have k1 : ((w.alloc (.cells #[.int .u64 ((0 : Nat) : Int)] 97)).alloc (.cells (zeros32 (n + 1)) 44)).ownsRow w.heap.size 44 1 (.slice (some ⟨w.heap.size + 1, 0, none⟩) 0 (n + 1)) 0 (u32s []) := by
    have := World.ownsRow_made (base := w.heap.size) (e := 44) (size := 1) (w.alloc (.cells #[.int .u64 ((0 : Nat) : Int)] 97)) (zeros32 (n + 1)) (n + 1) (by simp) (by simp [maxLen]; omega) (by simp [zeros32, size_madeCells])
    rw [World.size_alloc] at this
    exact this
  have hE : Ext w ((w.alloc (.cells #[.int .u64 ((0 : Nat) : Int)] 97)).alloc (.cells (zeros32 (n + 1)) 44)) := Ext.al (Ext.al Ext.rfl' _) _
  have K0 := LH k0
  have K1 := LH k1
  clear k0 k1
  go_loopw [6, 8, 16] (fun v _ i wr => ∃ (k : Nat) (S : List Nat) (cc : Nat), k ≤ n ∧ i = .int .i64 k ∧ v = .slice (some ⟨w.heap.size + 1, 0, none⟩) k (n + 1) ∧ S.length = k ∧ Words S ∧ cc < 4294967296 ∧ Hid (OwnW wr w.heap.size (w.heap.size + 1) k (n + 1) S) ∧ Hid (Boxed wr w.heap.size 97 (.int .u64 (cc : Int))) ∧ Hid (natOf S + 4294967296 ^ k * cc = natOf (xs.take k) * 2 ^ sh) ∧ Ext w wr) (fun _ _ i _ => n - (intOf i).toNat)
  case atStart => exact ⟨0, [], 0, by omega, rfl, rfl, rfl, Words.nil, by omega, K1, K0, by simp [Hid, natOf], hE⟩
  case round =>
    obtain ⟨k, S, cc, hk, rfl, rfl, hSl, hwS, hcc, HO, HC, HV, hbw⟩ := hrel
    have HSL := LH hSl
    clear hSl
    have g0 := HC.out.cell
    have g1 := HC.out.frozen
    by_cases hlt : k < n
    · have hbv : decide (k < n) = true := by simp; omega
      obtain ⟨bX, oX, rfl, hbX, hcX⟩ := (HX.out.below hbw).2.2 (by omega)
      have cX := hcX k hlt
      clear hcX
      have hxk := hwx.getD k
      have HT := LH (natOf_take_succ xs k)
      have h00 : (0 : Int) ≤ (k : Int) := by omega
      have h01 : (k : Int) < (n : Int) := by omega
      generalize xs.getD k 0 = x at *
      have hp : 2 ^ sh ≤ 2147483648 := by
        have : 2 ^ sh ≤ 2 ^ 31 := Nat.pow_le_pow_right (by omega) hs
        simpa using this
      have hq1 : x * 2 ^ sh ≤ 4294967295 * 2147483648 := Nat.mul_le_mul (by omega) hp
      obtain ⟨q, hq⟩ : ∃ q, x * 2 ^ sh = q := ⟨_, rfl⟩
      have HQ := LH hq
      rw [hq] at hq1
      have hqz : (x : Int) * 2 ^ sh = (q : Int) := by rw [← hq]; simp
      clear hq hp
      go_wp2_with fail
      refine (next_any w.heap.size q cc (q : Int) wr rfl (by omega) g0 g1).mono ?_
      rintro e w1 ⟨rfl, rfl⟩
      obtain ⟨xn, hxn⟩ : ∃ xn, (q + cc) % 4294967296 = xn := ⟨_, rfl⟩
      obtain ⟨cn, hcn⟩ : ∃ cn, (q + cc) / 4294967296 = cn := ⟨_, rfl⟩
      have hcn2 : cn < 4294967296 := by omega
      have hxn2 : xn < 4294967296 := by omega
      have HXN := LH hxn
      have HCN := LH hcn
      have HO1 := LH (HO.out.far (p := ⟨w.heap.size, 0, none⟩) (by simp) (.int .u64 (cn : Int)))
      have HC1 := LH (HC.out.set (.int .u64 (cn : Int)))
      have hb1 : Ext w (wr.setCell ⟨w.heap.size, 0, none⟩ (.int .u64 (cn : Int))) := Below.setCell hbw (p := ⟨w.heap.size, 0, none⟩) (by simp) _
      rw [hcn, hxn]
      clear hxn hcn g0 g1 HO HC
      generalize wr.setCell ⟨w.heap.size, 0, none⟩ (.int .u64 (cn : Int)) = W1 at *
      go_wp2_with (at_builtin
                   refine wpList_append_fits _ rfl (.tmp 20) (.tmp 27) 25 rfl w.heap.size 44 i0 1 Tryz.underlying25 hi hz1 (w.heap.size + 1) k (n + 1) (u32s S) rfl (own_keep HO1.out (fun g hg => Below.heap_alloc W1 _ g (own_lt HO1.out hg).1)) ⟨W1.heap.size, 0, none⟩ 1 1 [.int .u32 (xn : Int)] rfl rfl (World.news_of_block (cs := #[.int .u32 (xn : Int)]) (t := 44) (fr := (0, 0)) (heap_alloc_new W1 _)) (by simp [Value.oneCell']) (by omega) ?_
                   intro w3 hown3 hg3
                   rw [← u32s_snoc] at hown3
                   have HO3 := LH hown3
                   have HG3 := LH hg3
                   clear hown3 hg3)
      go_roundw
      case rel =>
        refine ⟨k + 1, S ++ [xn], cn, by omega, by go_num, rfl, by simp [HSL.out], hwS.append (Words.cons hxn2 Words.nil), hcn2, HO3.out, ?_, ?_, ?_⟩
        · exact ((HC1.out.alloc _).kept HG3.out (by simp only [ne_eq, Option.some.injEq]; omega))
        · have hst := carry_step (v := q) (T := natOf (xs.take k) * 2 ^ sh) (by rw [HSL.out]; exact HV.out)
          rw [HXN.out, HCN.out] at hst
          unfold Hid
          rw [HT.out, Nat.add_mul, Nat.mul_assoc, HQ.out]
          simp only [List.length_append, List.length_cons, List.length_nil, HSL.out, Nat.zero_add] at hst
          exact hst
        · exact ext_grownW (Ext.al hb1 _) HG3.out (fun g e => by cases e; simp)
      case measure => simp [intOf]; omega
    · obtain rfl : k = n := by omega
      have hbv : decide (k < k) = false := by simp
      go_wp2_with fail
      refine (next_any w.heap.size 0 cc 0 wr rfl (by omega) g0 g1).mono ?_
      rintro e w1 ⟨rfl, rfl⟩
      obtain ⟨xn, hxn⟩ : ∃ xn, (0 + cc) % 4294967296 = xn := ⟨_, rfl⟩
      obtain ⟨cn, hcn⟩ : ∃ cn, (0 + cc) / 4294967296 = cn := ⟨_, rfl⟩
      have hxn2 : xn < 4294967296 := by omega
      have HXC : Hid (xn = cc) := by unfold Hid; omega
      have HO1 := LH (HO.out.far (p := ⟨w.heap.size, 0, none⟩) (by simp) (.int .u64 (cn : Int)))
      have hb1 : Ext w (wr.setCell ⟨w.heap.size, 0, none⟩ (.int .u64 (cn : Int))) := Below.setCell hbw (p := ⟨w.heap.size, 0, none⟩) (by simp) _
      rw [hcn, hxn]
      clear hxn hcn g0 g1 HO HC
      generalize wr.setCell ⟨w.heap.size, 0, none⟩ (.int .u64 (cn : Int)) = W1 at *
      go_wp2_with (at_builtin
                   refine wpList_append_fits _ rfl (.tmp 30) (.tmp 33) 25 rfl w.heap.size 44 i0 1 Tryz.underlying25 hi hz1 (w.heap.size + 1) k (k + 1) (u32s S) rfl (own_keep HO1.out (fun g hg => Below.heap_alloc W1 _ g (own_lt HO1.out hg).1)) ⟨W1.heap.size, 0, none⟩ 1 1 [.int .u32 (xn : Int)] rfl rfl (World.news_of_block (cs := #[.int .u32 (xn : Int)]) (t := 44) (fr := (0, 0)) (heap_alloc_new W1 _)) (by simp [Value.oneCell']) (by omega) ?_
                   intro w3 hown3 hg3
                   rw [← u32s_snoc] at hown3
                   have HO3 := LH hown3
                   have HG3 := LH hg3
                   clear hown3 hg3)
      go_ret
      refine ⟨S ++ [xn], rfl, ?_, HO3.out, hwS.append (Words.cons hxn2 Words.nil), ext_grownW (Ext.al hb1 _) HG3.out (fun g e => by cases e; simp)⟩
      rw [natOf_snoc, HSL.out, HXC.out, HV.out, List.take_of_length_le (by rw [HX.out.1]; omega)]
end Go.Proofs.YtjinpfnefeiooaaGreat
namespace Go.Proofs.YtjinpfnefeiooaaGreat
open Go.RowKit

theorem tab_ok {T : ByteArray} {i : Nat} (h : i < T.size) (hT : (T.data.toList.zipIdx.all fun p => decide (p.1.toNat ≤ 8) && decide (p.2 < 2 ^ p.1.toNat)) = true) : T[i].toNat ≤ 8 ∧ i < 2 ^ T[i].toNat := by
 have h0 : (T[i], i) ∈ T.data.toList.zipIdx := by
  rw [List.mem_zipIdx_iff_getElem?]
  show T.data.toList[i]? = some T.data[i]
  rw [Array.getElem?_toList]
  exact Array.getElem?_eq_getElem h
 have h1 := List.all_eq_true.1 hT _ h0
 simpa using h1
theorem tab_ret {T : ByteArray} {i : Nat} (h : i < T.size) (hT : (T.data.toList.zipIdx.all fun p => decide (p.1.toNat ≤ 8) && decide (p.2 < 2 ^ p.1.toNat)) = true) {x : Nat} (k : Nat) (hk : k ≤ 24) (hx : x / 2 ^ k ≤ i) (w : World) :
  ∃ l : Nat, Ending.returned (.int .i64 (wrap64 ((k : Int) + wrap64 (T[i].toNat : Int)))) = .returned (.int .i64 (l : Int)) ∧ l ≤ 32 ∧ x < 2 ^ l ∧ w = w := by
 obtain ⟨h1, h2⟩ := tab_ok h hT
 generalize T[i].toNat = t at *
 refine ⟨k + t, ?_, by omega, ?_, rfl⟩
 ·have e1 : wrap64 (t : Int) = (t : Int) := by unfold wrap64; omega
  rw [e1]
  have e2 : wrap64 ((k : Int) + (t : Int)) = ((k + t : Nat) : Int) := by unfold wrap64; omega
  rw [e2]
 ·rw [Nat.pow_add]
  have := Nat.div_lt_iff_lt_mul (x := x) (y := 2 ^ t) (Nat.two_pow_pos k)
  rw [Nat.mul_comm]
  exact this.1 (by omega)
theorem tab_ret0 {T : ByteArray} {i : Nat} (h : i < T.size) (hT : (T.data.toList.zipIdx.all fun p => decide (p.1.toNat ≤ 8) && decide (p.2 < 2 ^ p.1.toNat)) = true) (w : World) :
  ∃ l : Nat, Ending.returned (.int .i64 (wrap64 (wrap64 (T[i].toNat : Int)))) = .returned (.int .i64 (l : Int)) ∧ l ≤ 32 ∧ i < 2 ^ l ∧ w = w := by
 obtain ⟨l, h1⟩ := tab_ret (x := i) h hT 0 (by omega) (by simp) w
 refine ⟨l, ?_⟩
 rw [show ((0 : Nat) : Int) = 0 from rfl, Int.zero_add] at h1
 exact h1
set_option maxRecDepth 100000 in
set_option maxHeartbeats 2000000 in
theorem len32_any (x : Nat) (w : World) (hx : x < 4294967296) :
  Calls Tryz.prog 150 #[.int .u32 (x : Int)] w fun e w' => ∃ l : Nat, e = .returned (.int .i64 (l : Int)) ∧ l ≤ 32 ∧ x < 2 ^ l ∧ w' = w := by
 go_enter Tryz.func150, Tryz.ntmps150
 by_cases h1 : 65536 ≤ x
 ·obtain ⟨y, hy⟩ : ∃ y, x / 65536 = y := ⟨_, rfl⟩
  have hyz : (x : Int) / 65536 = (y : Int) := by omega
  have hb1 : decide ((65536 : Int) ≤ (x : Int)) = true := by simp; omega
  by_cases h2 : 256 ≤ y
  ·obtain ⟨z, hz⟩ : ∃ z, y / 256 = z := ⟨_, rfl⟩
   have hzz : (y : Int) / 256 = (z : Int) := by omega
   have hb2 : decide ((256 : Int) ≤ (y : Int)) = true := by simp; omega
   have hz2 : z < 256 := by omega
   have HR : Hid (x / 2 ^ 24 ≤ z) := by unfold Hid; simp only [Nat.reducePow]; omega
   clear hy hz
   go_wp2_with fail
   go_ret
   exact tab_ret (k := 24) hz2 (by decide +kernel) (by omega) HR.out w
  ·have hb2 : decide ((256 : Int) ≤ (y : Int)) = false := by simp; omega
   have hz2 : y < 256 := by omega
   have HR : Hid (x / 2 ^ 16 ≤ y) := by unfold Hid; simp only [Nat.reducePow]; omega
   clear hy
   go_wp2_with fail
   go_ret
   exact tab_ret (k := 16) hz2 (by decide +kernel) (by omega) HR.out w
 ·have hb1 : decide ((65536 : Int) ≤ (x : Int)) = false := by simp; omega
  by_cases h2 : 256 ≤ x
  ·obtain ⟨z, hz⟩ : ∃ z, x / 256 = z := ⟨_, rfl⟩
   have hzz : (x : Int) / 256 = (z : Int) := by omega
   have hb2 : decide ((256 : Int) ≤ (x : Int)) = true := by simp; omega
   have hz2 : z < 256 := by omega
   have HR : Hid (x / 2 ^ 8 ≤ z) := by unfold Hid; simp only [Nat.reducePow]; omega
   clear hz
   go_wp2_with fail
   go_ret
   exact tab_ret (k := 8) hz2 (by decide +kernel) (by omega) HR.out w
  ·have hb2 : decide ((256 : Int) ≤ (x : Int)) = false := by simp; omega
   have hz2 : x < 256 := by omega
   go_wp2_with fail
   go_ret
   refine tab_ret0 (i := x) ?_ ?_ w
   decide +kernel
theorem zeros32_any (x : Nat) (w : World) (hx : x < 4294967296) (h0 : 0 < x) :
  Calls Tryz.prog 145 #[.int .u32 (x : Int)] w fun e w' => ∃ s : Nat, e = .returned (.int .i64 (s : Int)) ∧ s ≤ 31 ∧ x * 2 ^ s < 4294967296 ∧ w' = w := by
 go_enter Tryz.func145, Tryz.ntmps145
 go_wp2_with fail
 refine (len32_any x w hx).mono ?_
 rintro e w1 ⟨l, rfl, hl, hxl, rfl⟩
 have HXL := LH hxl
 clear hxl
 have hl0 : l ≠ 0 := by rintro rfl; have := HXL.out; simp at this; omega
 go_wp2_with fail
 go_ret
 refine ⟨32 - l, ret_i64 (by omega), by omega, ?_, rfl⟩
 have h2 : x * 2 ^ (32 - l) < 2 ^ l * 2 ^ (32 - l) := Nat.mul_lt_mul_of_pos_right HXL.out (Nat.two_pow_pos _)
 rw [← Nat.pow_add, show l + (32 - l) = 32 by omega] at h2
 exact h2
end Go.Proofs.YtjinpfnefeiooaaGreat
namespace Go.Proofs.YtjinpfnefeiooaaGreat

theorem natOf_take_full {xs : List Nat} {k : Nat} (h : xs.length = k) : natOf (xs.take k) = natOf xs := by rw [List.take_of_length_le (by omega)]
theorem top3 {xs : List Nat} {p : Nat} (h : xs.length = p + 3) : natOf xs = (((xs.getD (p + 2) 0) * 4294967296 + xs.getD (p + 1) 0) * 4294967296 + xs.getD p 0) * 4294967296 ^ p + natOf (xs.take p) := by
 rw [← natOf_take_full h, natOf_take_succ, natOf_take_succ, natOf_take_succ]
 have p1 : (4294967296 : Nat) ^ (p + 1) = 4294967296 ^ p * 4294967296 := Nat.pow_succ ..
 have p2 : (4294967296 : Nat) ^ (p + 2) = 4294967296 ^ p * 4294967296 * 4294967296 := by rw [← p1]; exact Nat.pow_succ ..
 rw [p1, p2]
 clear p1 p2
 generalize (4294967296 : Nat) ^ p = R
 generalize natOf (xs.take p) = N
 generalize xs.getD p 0 = a
 generalize xs.getD (p + 1) 0 = b
 generalize xs.getD (p + 2) 0 = c
 have e1 : R * 4294967296 * b = 4294967296 * (b * R) := by rw [Nat.mul_comm R, Nat.mul_assoc, Nat.mul_comm R]
 have e2 : R * 4294967296 * 4294967296 * c = 4294967296 * 4294967296 * (c * R) := by rw [Nat.mul_assoc R, Nat.mul_comm R, Nat.mul_assoc, Nat.mul_comm R]
 have e3 : ((c * 4294967296 + b) * 4294967296 + a) * R = 4294967296 * 4294967296 * (c * R) + 4294967296 * (b * R) + a * R := by
  rw [Nat.add_mul, Nat.add_mul, Nat.add_mul, Nat.mul_assoc, Nat.mul_assoc, Nat.mul_assoc b]
  have : c * (4294967296 * (4294967296 * R)) = 4294967296 * 4294967296 * (c * R) := by rw [Nat.mul_left_comm, Nat.mul_left_comm c, Nat.mul_assoc]
  have : b * (4294967296 * R) = 4294967296 * (b * R) := Nat.mul_left_comm _ _ _
  omega
 rw [e1, e2, e3, Nat.mul_comm R a]
 omega
theorem top2 {xs : List Nat} {p : Nat} (h : xs.length = p + 2) : natOf xs = ((xs.getD (p + 1) 0) * 4294967296 + xs.getD p 0) * 4294967296 ^ p + natOf (xs.take p) := by
 rw [← natOf_take_full h, natOf_take_succ, natOf_take_succ]
 have p1 : (4294967296 : Nat) ^ (p + 1) = 4294967296 ^ p * 4294967296 := Nat.pow_succ ..
 rw [p1]
 clear p1
 generalize (4294967296 : Nat) ^ p = R
 generalize natOf (xs.take p) = N
 generalize xs.getD p 0 = a
 generalize xs.getD (p + 1) 0 = b
 have e1 : R * 4294967296 * b = 4294967296 * (b * R) := by rw [Nat.mul_comm R, Nat.mul_assoc, Nat.mul_comm R]
 have e3 : (b * 4294967296 + a) * R = 4294967296 * (b * R) + a * R := by rw [Nat.add_mul, Nat.mul_assoc, Nat.mul_left_comm]
 rw [e1, e3, Nat.mul_comm R a]
 omega
theorem est_q {U V S T R ul vl : Nat} (hU : U = T * R + ul) (hV : V = S * R + vl) (hu : ul < R) : U / V * S ≤ T := by
 have h1 : U / V * V ≤ U := Nat.div_mul_le_self U V
 have h2 : U / V * S * R ≤ U := by
  refine Nat.le_trans ?_ h1
  rw [hV, Nat.mul_assoc]
  exact Nat.mul_le_mul_left _ (Nat.le_add_right _ _)
 rcases Nat.lt_or_ge T (U / V * S) with h | h
 ·exfalso
  have h3 : (T + 1) * R ≤ U / V * S * R := Nat.mul_le_mul_right _ h
  rw [Nat.add_mul] at h3
  omega
 ·exact h
theorem est_dec {q g f s r B top u2 : Nat} (hg : g * f + r = top) (hq : q * (f * B + s) ≤ top * B + u2) (h : r * B + u2 < g * s) : q < g := by
 rcases Nat.lt_or_ge q g with h1 | h1
 ·exact h1
 ·exfalso
  have h2 : g * (f * B + s) ≤ q * (f * B + s) := Nat.mul_le_mul_right _ h1
  rw [Nat.mul_add g, ← Nat.mul_assoc] at h2
  rw [← hg, Nat.add_mul] at hq
  omega
theorem est_le {g f s r B top u2 : Nat} (hg : g * f + r = top) (h : g * s ≤ r * B + u2) : g * (f * B + s) ≤ top * B + u2 := by
 rw [Nat.mul_add, ← Nat.mul_assoc, ← hg, Nat.add_mul]
 omega
theorem est_end {U V S T R ul vl g : Nat} (hU : U = T * R + ul) (hV : V = S * R + vl) (hv : vl < R) (hV0 : 0 < V) (h : g * S ≤ T) (hg : g ≤ S) : g ≤ U / V + 1 := by
 rcases Nat.lt_or_ge g 1 with h0 | h0
 ·exact Nat.le_trans (show g ≤ 0 by omega) (Nat.zero_le _)
 ·obtain ⟨k, rfl⟩ : ∃ k, g = k + 1 := ⟨g - 1, by omega⟩
  have h1 : k * V ≤ U := by
   have e1 : k * V ≤ k * ((S + 1) * R) := Nat.mul_le_mul_left _ (by rw [hV, Nat.add_mul]; omega)
   have e2 : k * ((S + 1) * R) ≤ (k + 1) * S * R := by
    rw [← Nat.mul_assoc]
    refine Nat.mul_le_mul_right _ ?_
    rw [Nat.mul_add, Nat.add_mul]
    omega
   have e3 : (k + 1) * S * R ≤ T * R := Nat.mul_le_mul_right _ h
   omega
  exact Nat.succ_le_succ ((Nat.le_div_iff_mul_le hV0).2 h1)
theorem est_top {U V R f s u0 u1 u2 ul vl B : Nat} (_hB : 0 < B) (hU : U = ((u0 * B + u1) * B + u2) * R + ul) (hV : V = (f * B + s) * R + vl) (hv : vl < R) (hs : s < B) (h : U < V * B) : u0 ≤ f := by
 rcases Nat.lt_or_ge f u0 with h1 | h1
 ·exfalso
  have e1 : V ≤ (f + 1) * B * R := by
   have : (f * B + s + 1) * R ≤ ((f + 1) * B) * R := Nat.mul_le_mul_right _ (by rw [Nat.add_mul]; omega)
   rw [Nat.add_mul (f * B + s) 1] at this
   omega
  have e2 : V * B ≤ (f + 1) * B * R * B := Nat.mul_le_mul_right _ e1
  have e3 : (f + 1) * B * R * B ≤ u0 * B * R * B := Nat.mul_le_mul_right _ (Nat.mul_le_mul_right _ (Nat.mul_le_mul_right _ h1))
  have e4 : u0 * B * R * B = u0 * B * B * R := by rw [Nat.mul_assoc (u0 * B), Nat.mul_comm R, ← Nat.mul_assoc]
  have e5 : u0 * B * B * R ≤ ((u0 * B + u1) * B + u2) * R := Nat.mul_le_mul_right _ (by rw [Nat.add_mul]; omega)
  omega
 ·exact h1
end Go.Proofs.YtjinpfnefeiooaaGreat
namespace Go.Proofs.YtjinpfnefeiooaaGreat
open Go.RowKit

set_option maxRecDepth 100000 in
set_option maxHeartbeats 4000000 in
theorem estimate_any (A : Option Addr) (c : Nat) (us : List Nat) (B : Option Addr) (p d : Nat) (vs : List Nat) (w : World) (hU : WordsAt w A (p + 3) us) (hV : WordsAt w B (p + 2) vs) (hp : p ≤ 1073741824)
  (hf : 0 < vs.getD (p + 1) 0) (hlt : natOf us < natOf vs * 4294967296) :
  Calls Tryz.prog 147 #[.slice A (p + 3) c, .slice B (p + 2) d] w fun e w' => ∃ g : Nat, e = .returned (.int .u64 (g : Int)) ∧ natOf us / natOf vs ≤ g ∧ g ≤ natOf us / natOf vs + 1 ∧ g < 4294967296 ∧ Ext w w' := by
 obtain ⟨bU, oU, rfl, hbU, hcU⟩ := hU.2.2 (by omega)
 obtain ⟨bV, oV, rfl, hbV, hcV⟩ := hV.2.2 (by omega)
 have u0 := hcU (p + 2) (by omega)
 have u1 := hcU (p + 1) (by omega)
 have u2 := hcU p (by omega)
 have v0 := hcV (p + 1) (by omega)
 have v1 := hcV p (by omega)
 have x0 := hU.2.1.getD (p + 2)
 have x1 := hU.2.1.getD (p + 1)
 have x2 := hU.2.1.getD p
 have y0 := hV.2.1.getD (p + 1)
 have y1 := hV.2.1.getD p
 have HU3 := LH (top3 hU.1)
 have HV2 := LH (top2 hV.1)
 have HUl : Hid (natOf (us.take p) < 4294967296 ^ p) := by have h := natOf_lt (hU.2.1.take p); rw [List.length_take, hU.1, show min p (p + 3) = p by omega] at h; exact h
 have HVl : Hid (natOf (vs.take p) < 4294967296 ^ p) := by have h := natOf_lt (hV.2.1.take p); rw [List.length_take, hV.1, show min p (p + 2) = p by omega] at h; exact h
 clear hU hV hcU hcV
 generalize natOf (us.take p) = ul at *
 generalize natOf (vs.take p) = vl at *
 generalize us.getD (p + 2) 0 = a at *
 generalize us.getD (p + 1) 0 = b at *
 generalize us.getD p 0 = cc at *
 generalize vs.getD (p + 1) 0 = f at *
 generalize vs.getD p 0 = s at *
 have haf : a ≤ f := est_top (by decide) HU3.out HV2.out HVl.out y1 hlt
 have HQB : Hid (natOf us / natOf vs < 4294967296) := Nat.div_lt_of_lt_mul hlt
 have HQS := LH (est_q HU3.out HV2.out HUl.out)
 have hV0 : 0 < natOf vs := by
  rcases Nat.eq_zero_or_pos (natOf vs) with h | h
  ·rw [h] at hlt; omega
  ·exact h
 have HEND := LH (fun g : Nat => est_end (g := g) HU3.out HV2.out HVl.out hV0)
 clear HU3 HV2 HUl HVl hlt hV0
 generalize natOf us / natOf vs = q at *
 obtain ⟨top, htop⟩ : ∃ top, a * 4294967296 + b = top := ⟨_, rfl⟩
 have hor : bits .or .u64 ((a : Int) * 4294967296) (b : Int) = (top : Int) := by rw [or_high a b x0 x1, ← htop]; omega
 have htb : top ≤ f * 4294967296 + 4294967295 := by
  have := Nat.mul_le_mul_right 4294967296 haf
  omega
 have htw : top < 18446744073709551616 := by omega
 rw [htop] at HQS HEND
 clear htop haf
 have hi1 : (0 : Int) ≤ (p : Int) := by omega
 obtain ⟨g0, hg0⟩ : ∃ g0, top / f = g0 := ⟨_, rfl⟩
 obtain ⟨r0, hr0⟩ : ∃ r0, top % f = r0 := ⟨_, rfl⟩
 have hdz : (top : Int) / (f : Int) = (g0 : Int) := by rw [← hg0]; simp
 have hrz : (top : Int) % (f : Int) = (r0 : Int) := by rw [← hr0]; simp
 have HG0 : Hid (g0 * f + r0 = top) := by unfold Hid; rw [← hg0, ← hr0, Nat.mul_comm]; exact Nat.div_add_mod top f
 have hr1 : r0 < f := by rw [← hr0]; exact Nat.mod_lt _ hf
 have hg1 : g0 ≤ top := by rw [← hg0]; exact Nat.div_le_self _ _
 have hq0 : q ≤ g0 := by
  rw [← hg0]
  refine (Nat.le_div_iff_mul_le hf).2 ?_
  have h1 := HQS.out
  rw [Nat.mul_add, ← Nat.mul_assoc] at h1
  omega
 clear hg0 hr0
 go_enter Tryz.func147, Tryz.ntmps147
 go_wp2_with fail
 go_quiet (fail)
 go_wp2_with fail
 go_quiet (fail)
 go_wp2_with fail
 go_quiet (fail)
 go_wp2_with fail
 go_loopw [9, 10] (fun gv rv wr => ∃ g r : Nat, gv = .int .u64 (g : Int) ∧ rv = .int .u64 (r : Int) ∧ Hid (g * f + r = top) ∧ q ≤ g ∧ r < 4294967296 ∧ g ≤ top ∧ Ext w wr) (fun gv _ _ => (intOf gv).toNat)
 case atStart => exact ⟨g0, r0, rfl, congrArg (Value.int .u64) hrz, HG0, hq0, by omega, hg1, below_drewN (below_drewN (below_drewN (Below.refl _ _) _) _) _⟩
 case round =>
  obtain ⟨g, r, rfl, rfl, HG, hqg, hr, hgt, hbw⟩ := hrel
  have u2' := hbw.cellOf u2
  have hor2 := or_high r cc hr x2
  obtain ⟨rc, hrc⟩ : ∃ rc, 4294967296 * r + cc = rc := ⟨_, rfl⟩
  rw [hrc] at hor2
  have hrcb : rc < 18446744073709551616 := by omega
  have HRC : Hid (r * 4294967296 + cc = rc) := by unfold Hid; omega
  clear hrc
  obtain ⟨gh, hgh⟩ : ∃ gh, g / 4294967296 = gh := ⟨_, rfl⟩
  have hghz : (g : Int) / 4294967296 = (gh : Int) := by omega
  by_cases h1 : gh = 0
  ·subst h1
   have hgB : g < 4294967296 := by omega
   have hm1 : g * s ≤ 18446744065119617025 := words_mul_le hgB y1
   obtain ⟨m1, hm⟩ : ∃ m1, g * s = m1 := ⟨_, rfl⟩
   have hmz : (g : Int) * (s : Int) = (m1 : Int) := by rw [← hm]; simp
   have HM := LH hm
   rw [hm] at hm1
   clear hgh hm
   by_cases h2 : rc < m1
   ·have HD : Hid (q < g) := est_dec HG.out HQS.out (by rw [HM.out, HRC.out]; exact h2)
    have hqg1 : q < g := HD.out
    have hb1 : decide ((rc : Int) < (m1 : Int)) = true := by simp; omega
    have HG1 : Hid ((g - 1) * f + (r + f) = top) := by
     have := HG.out
     unfold Hid
     obtain ⟨k, rfl⟩ : ∃ k, g = k + 1 := ⟨g - 1, by omega⟩
     rw [Nat.add_mul] at this
     simp only [Nat.add_sub_cancel]
     omega
    have hge : (1 : Int) ≤ (g : Int) := by omega
    obtain ⟨r1, hr1⟩ : ∃ r1, r + f = r1 := ⟨_, rfl⟩
    have hr1z : (r : Int) + (f : Int) = (r1 : Int) := by omega
    rw [hr1] at HG1
    have hr1b : r1 < 8589934592 := by omega
    by_cases h3 : 4294967296 ≤ r1
    ·have hb3 : ((r1 : Int) / 4294967296 != 0) = true := by simp; omega
     have HK : Hid (g - 1 < 4294967296) := by
      unfold Hid
      have h4 := HG1.out
      rcases Nat.lt_or_ge (g - 1) 4294967296 with h5 | h5
      ·exact h5
      ·exfalso
       have h6 := Nat.mul_le_mul_right f h5
       have h7 : 4294967296 * f = f * 4294967296 := Nat.mul_comm _ _
       omega
     have HE : Hid (g - 1 ≤ q + 1) := by
      have hk := HK.out
      refine HEND.out (g - 1) (est_le HG1.out ?_) (by have := Nat.mul_le_mul_right 4294967296 hf; omega)
      have := words_mul_le hk y1
      have h8 := Nat.mul_le_mul_right 4294967296 h3
      omega
     clear hr1
     go_wp2_with fail
     go_ret
     exact ⟨g - 1, ret_u64 (by omega), by omega, HE.out, HK.out, hbw⟩
    ·have hb3 : ((r1 : Int) / 4294967296 != 0) = false := by simp; omega
     clear hr1
     go_wp2_with fail
     go_roundw
     case rel => exact ⟨g - 1, r1, by go_num, by go_num, HG1, by omega, by omega, by omega, hbw⟩
     case measure => simp [intOf]; omega
   ·have hb1 : decide ((rc : Int) < (m1 : Int)) = false := by simp; omega
    have HE : Hid (g ≤ q + 1) := HEND.out g (est_le HG.out (by rw [HM.out, HRC.out]; omega)) (by have := Nat.mul_le_mul_right 4294967296 hf; omega)
    go_wp2_with fail
    go_ret
    exact ⟨g, rfl, hqg, HE.out, hgB, hbw⟩
  ·have hgB : 4294967296 ≤ g := by omega
   have hb0 : ((gh : Int) != 0) = true := by simp; omega
   have HD : Hid (q < g) := by have := HQB.out; unfold Hid; omega
   have hqg1 : q < g := HD.out
   have HG1 : Hid ((g - 1) * f + (r + f) = top) := by
    have := HG.out
    unfold Hid
    obtain ⟨k, rfl⟩ : ∃ k, g = k + 1 := ⟨g - 1, by omega⟩
    rw [Nat.add_mul] at this
    simp only [Nat.add_sub_cancel]
    omega
   have hge : (1 : Int) ≤ (g : Int) := by omega
   clear hgh
   obtain ⟨r1, hr1⟩ : ∃ r1, r + f = r1 := ⟨_, rfl⟩
   have hr1z : (r : Int) + (f : Int) = (r1 : Int) := by omega
   rw [hr1] at HG1
   have hr1b : r1 < 8589934592 := by omega
   by_cases h3 : 4294967296 ≤ r1
   ·have hb3 : ((r1 : Int) / 4294967296 != 0) = true := by simp; omega
    have HK : Hid (g - 1 < 4294967296) := by
     unfold Hid
     have h4 := HG1.out
     rcases Nat.lt_or_ge (g - 1) 4294967296 with h5 | h5
     ·exact h5
     ·exfalso
      have h6 := Nat.mul_le_mul_right f h5
      have h7 : 4294967296 * f = f * 4294967296 := Nat.mul_comm _ _
      omega
    have HE : Hid (g - 1 ≤ q + 1) := by
     have hk := HK.out
     refine HEND.out (g - 1) (est_le HG1.out ?_) (by have := Nat.mul_le_mul_right 4294967296 hf; omega)
     have := words_mul_le hk y1
     have h8 := Nat.mul_le_mul_right 4294967296 h3
     omega
    clear hr1
    go_wp2_with fail
    go_ret
    exact ⟨g - 1, ret_u64 (by omega), by omega, HE.out, HK.out, hbw⟩
   ·have hb3 : ((r1 : Int) / 4294967296 != 0) = false := by simp; omega
    clear hr1
    go_wp2_with fail
    go_roundw
    case rel => exact ⟨g - 1, r1, by go_num, by go_num, HG1, by omega, by omega, by omega, hbw⟩
    case measure => simp [intOf]; omega
end Go.Proofs.YtjinpfnefeiooaaGreat
