/- A part of the proof. -/
import Derived.Test.YtjinpfnefeiooaaGreatShorts
namespace Go.Proofs.YtjinpfnefeiooaaGreat
open Go.RowKit

theorem subM_step {cur us vs : List Nat} {k f cc br x wd dw br' cc' y : Nat} (hk : k < cur.length) (hx : us.getD k 0 = x) (hy : vs.getD k 0 = y)
  (h : natOf (cur.take k) + natOf (vs.take k) * f = natOf (us.take k) + 4294967296 ^ k * (cc + br)) (h1 : y * f + cc = wd + 4294967296 * cc') (h2 : x + 4294967296 * br' = dw + wd + br) :
  natOf ((cur.set k dw).take (k + 1)) + natOf (vs.take (k + 1)) * f = natOf (us.take (k + 1)) + 4294967296 ^ (k + 1) * (cc' + br') := by
 have e0 : (cur.set k dw).take (k + 1) = cur.take k ++ [dw] := by
  rw [List.take_add_one, List.take_set_of_le (Nat.le_refl _)]
  simp [hk]
 rw [e0, natOf_append, natOf_take_succ, natOf_take_succ, hx, hy, List.length_take, show min k cur.length = k by omega, Nat.pow_succ]
 simp only [natOf, Nat.mul_zero, Nat.add_zero]
 generalize natOf (cur.take k) = N1 at *
 generalize natOf (vs.take k) = N2 at *
 generalize natOf (us.take k) = N3 at *
 generalize (4294967296 : Nat) ^ k = R at *
 have e1 : (N2 + R * y) * f = N2 * f + R * (y * f) := by rw [Nat.add_mul, Nat.mul_assoc]
 have e2 : R * (y * f) + R * cc = R * wd + R * (4294967296 * cc') := by rw [← Nat.mul_add, ← Nat.mul_add, h1]
 have e3 : R * x + R * (4294967296 * br') = R * dw + R * wd + R * br := by rw [← Nat.mul_add, ← Nat.mul_add, ← Nat.mul_add, h2]
 rw [e1, Nat.mul_assoc R 4294967296, Nat.mul_add 4294967296, Nat.mul_add R]
 rw [Nat.mul_add] at h
 omega
theorem subM_carry {vs : List Nat} {k f cc wd cc' y : Nat} (hy : vs.getD k 0 = y) (h : 4294967296 ^ k * cc ≤ natOf (vs.take k) * f) (h1 : y * f + cc = wd + 4294967296 * cc') : 4294967296 ^ (k + 1) * cc' ≤ natOf (vs.take (k + 1)) * f := by
 rw [natOf_take_succ, hy, Nat.pow_succ]
 generalize natOf (vs.take k) = N2 at *
 generalize (4294967296 : Nat) ^ k = R at *
 have e1 : (N2 + R * y) * f = N2 * f + R * (y * f) := by rw [Nat.add_mul, Nat.mul_assoc]
 have e2 : R * (y * f) + R * cc = R * wd + R * (4294967296 * cc') := by rw [← Nat.mul_add, ← Nat.mul_add, h1]
 rw [e1, Nat.mul_assoc]
 omega
theorem grown_new {w w1 : World} {r : Option Nat} (h : w.grownBy w1 r) {p : Addr} (hp : w.heap.size ≤ p.block) (v : Value) : w.grownBy (w1.setCell p v) r :=
 ⟨h.os, h.tape, h.output, by simpa [World.setCell] using h.size, fun k hk hne => (Below.heap_setCell w1 p v k (by omega)).trans (h.block k hk hne)⟩
theorem grown_drew {w w1 : World} {r : Option Nat} (h : w.grownBy w1 r) : w.grownBy w1.drew r := ⟨h.os, h.tape, h.output, h.size, h.block⟩
def Outside (w w' : World) (b off n : Nat) : Prop := ∀ i, (i < off ∨ off + n ≤ i) → w'.cell? ⟨b, i, none⟩ = w.cell? ⟨b, i, none⟩ ∧ w'.frozen? ⟨b, i, none⟩ = w.frozen? ⟨b, i, none⟩
theorem Outside.keep {w w1 w2 : World} {b off n : Nat} (h : Outside w w1 b off n) (e : w2.heap[b]? = w1.heap[b]?) : Outside w w2 b off n := fun i hi =>
 ⟨(World.cell?_of_block e).trans (h i hi).1, (World.frozen?_of_block e).trans (h i hi).2⟩
theorem Outside.put {w w1 : World} {b off n : Nat} (h : Outside w w1 b off n) {j : Nat} (hj : j < n) (v : Value) : Outside w (w1.setCell ⟨b, off + j, none⟩ v) b off n := fun i hi =>
 ⟨(World.cell?_setCell_other _ _ _ _ (by intro hh; injection hh; omega)).trans (h i hi).1, by rw [World.frozen?_setCell]; exact (h i hi).2⟩
theorem sub_words {x wd br : Nat} (hx : x < 4294967296) (hw : wd < 4294967296) (hb : br ≤ 1) : ∃ dd br' dw : Nat, IntKind.u64.wrap (IntKind.u64.wrap ((x : Int) - (wd : Int)) - (br : Int)) = (dd : Int) ∧ dd < 18446744073709551616 ∧ (dd : Int) / 9223372036854775808 = (br' : Int) ∧ (dd : Int) % 4294967296 = (dw : Int) ∧ x + 4294967296 * br' = dw + wd + br ∧ dw < 4294967296 ∧ br' ≤ 1 := by
 rw [u64_wrap, u64_wrap]
 rcases Nat.lt_or_ge x (wd + br) with h | h
 ·exact ⟨18446744073709551616 + x - wd - br, 1, (18446744073709551616 + x - wd - br) % 4294967296, by omega, by omega, by omega, by omega, by omega, by omega, by omega⟩
 ·exact ⟨x - wd - br, 0, x - wd - br, by omega, by omega, by omega, by omega, by omega, by omega, by omega⟩
set_option maxRecDepth 100000 in
set_option maxHeartbeats 4000000 in
theorem subM_any (b off m c : Nat) (us : List Nat) (B : Option Addr) (d : Nat) (vs : List Nat) (f : Nat) (w : World) (hU : WW w b off (m + 1) us) (hV : WordsAt w B m vs) (hne : ∀ bv ov, B = some ⟨bv, ov, none⟩ → bv ≠ b) (hm : m ≤ 1073741824) (hf : f < 4294967296) :
  Calls Tryz.prog 148 #[.slice (some ⟨b, off, none⟩) (m + 1) c, .slice B m d, .int .u64 (f : Int)] w fun e w' => ∃ (us' : List Nat) (br : Nat), e = .returned (.bool (br != 0)) ∧ br ≤ 1 ∧ WW w' b off (m + 1) us' ∧ natOf us' + natOf vs * f = natOf us + 4294967296 ^ (m + 1) * br ∧ Outside w w' b off (m + 1) ∧ w.grownBy w' (some b) := by
 have hwu := hU.2.1
 have hwv := hV.2.1
 have HL := LH hU.1
 have HB := LH hU.2.2.1
 have HU := LH hU
 have HV := LH hV
 clear hU hV
 go_enter Tryz.func148, Tryz.ntmps148
 go_wp2_with fail
 refine (carrier_any 0 _).mono ?_
 rintro e w1 ⟨rfl, rfl⟩
 go_wp2_with fail
 have HU0 := LH (HU.out.ext (Ext.al Ext.rfl' (.cells #[.int .u64 ((0 : Nat) : Int)] 97)))
 have HC0 := LH (Boxed.new w 97 (.int .u64 ((0 : Nat) : Int)))
 have HG0 : Hid (w.grownBy (w.alloc (.cells #[.int .u64 ((0 : Nat) : Int)] 97)) (some b)) := World.grownBy_alloc w _ _
 have HO0 : Hid (Outside w (w.alloc (.cells #[.int .u64 ((0 : Nat) : Int)] 97)) b off (m + 1)) := Outside.keep (fun _ _ => ⟨rfl, rfl⟩) (Below.heap_alloc w _ b HB.out)
 go_loopw [7, 9, 10, 11, 15] (fun bv _ _ _ i wr => ∃ (k br cc : Nat) (cur : List Nat), k ≤ m + 1 ∧ i = .int .i64 k ∧ bv = .int .u64 (br : Int) ∧ br ≤ 1 ∧ cc < 4294967296 ∧ Hid (WW wr b off (m + 1) cur) ∧ Hid (Boxed wr w.heap.size 97 (.int .u64 (cc : Int))) ∧ Hid (∀ j, k ≤ j → cur.getD j 0 = us.getD j 0) ∧ Hid (natOf (cur.take k) + natOf (vs.take k) * f = natOf (us.take k) + 4294967296 ^ k * (cc + br)) ∧ Hid (4294967296 ^ k * cc ≤ natOf (vs.take k) * f) ∧ Hid (Outside w wr b off (m + 1)) ∧ Hid (w.grownBy wr (some b))) (fun _ _ _ _ i _ => m + 1 - (intOf i).toNat)
 case atStart => exact ⟨0, 0, 0, us, by omega, rfl, rfl, by omega, by omega, HU0, HC0, fun _ _ => rfl, by simp [Hid, natOf], by simp [Hid], HO0, HG0⟩
 case round =>
  obtain ⟨k, br, cc, cur, hk, rfl, rfl, hbr, hcc, HW, HC, HS, HE, HI, HO, HG⟩ := hrel
  by_cases hlt : k < m + 1
  ·have c1 := HW.out.2.2.2.1 k hlt
   have c2 := HW.out.2.2.2.2 k
   rw [HS.out k (Nat.le_refl _)] at c1
   have hxk := hwu.getD k
   have HST := LH (fun (wd dw br' cc' : Nat) => subM_step (cur := cur) (us := us) (vs := vs) (wd := wd) (dw := dw) (br' := br') (cc' := cc') (by rw [HW.out.1]; exact hlt) rfl rfl HE.out)
   have HSC := LH (fun (wd cc' : Nat) => subM_carry (vs := vs) (wd := wd) (cc' := cc') rfl HI.out)
   have h01 : (0 : Int) ≤ (k : Int) := by omega
   have h02 : (k : Int) < (m : Int) + 1 := by omega
   generalize us.getD k 0 = x at *
   have hm1 : vs.getD k 0 * f ≤ 18446744065119617025 := words_mul_le (hwv.getD k) hf
   by_cases hkm : k < m
   ·have hb1 : decide ((k : Int) < (m : Int)) = true := by simp; omega
    obtain ⟨bV, oV, rfl, hbV, hcV⟩ := HV.out.2.2 (by omega)
    have v1 : wr.cell? ⟨bV, oV + k, none⟩ = _ := (World.cell?_of_block (HG.out.block bV hbV (by have := hne _ _ rfl; intro e; cases e; exact this rfl))).trans (hcV k hkm)
    clear hcV
    have hyk := hwv.getD k
    generalize vs.getD k 0 = y at *
    obtain ⟨p, hp⟩ : ∃ p, y * f = p := ⟨_, rfl⟩
    have hpz : (y : Int) * (f : Int) = (p : Int) := by rw [← hp]; simp
    rw [hp] at hm1 HST HSC
    clear hp
    go_wp2_with fail
    have d1 : wr.drew.cell? ⟨b, off + k, none⟩ = _ := c1
    have xd1 := fun y : ExtX wr.drew [w.heap.size] => y.cell d1 (by simp; have := HB.out; omega)
    refine wp_region_lex (C := InX wr.drew [w.heap.size]) (by kernel_rfl) (by kernel_rfl) (inX_self _ _) ?_
    repeat (refine wpLex_still (by rfl) ?_; go_big_quiet_step (fail); refine wpQuiet_nil ?_)
    refine wpLex_move (by rfl) (by rfl) ?_
    go_wp2_with fail
    refine (next_any w.heap.size p cc (p : Int) wr.drew rfl (by omega) HC.out.cell HC.out.frozen).mono ?_
    rintro e w1 ⟨rfl, rfl⟩
    obtain ⟨wd, hwd⟩ : ∃ wd, (p + cc) % 4294967296 = wd := ⟨_, rfl⟩
    obtain ⟨cn, hcn⟩ : ∃ cn, (p + cc) / 4294967296 = cn := ⟨_, rfl⟩
    have hcn2 : cn < 4294967296 := by omega
    have hwd2 : wd < 4294967296 := by omega
    have HPC : Hid (p + cc = wd + 4294967296 * cn) := by unfold Hid; omega
    have HW1 := LH ((HW.out.keep (w' := wr.drew) rfl).far (p := ⟨w.heap.size, 0, none⟩) (by simp; have := HB.out; omega) (.int .u64 (cn : Int)))
    have HC1 := LH (Boxed.set (W := wr.drew) (.int .u64 (cn : Int)) HC.out)
    have HG1 := LH (grown_new (grown_drew HG.out) (p := ⟨w.heap.size, 0, none⟩) (by simp) (.int .u64 (cn : Int)))
    have HO1 := LH (HO.out.keep (w2 := wr.drew.setCell ⟨w.heap.size, 0, none⟩ (.int .u64 (cn : Int))) (Below.heap_setCell wr.drew ⟨w.heap.size, 0, none⟩ _ b (by simp; have := HB.out; omega)))
    have HX1 : Hid (InX wr.drew [w.heap.size] (wr.drew.setCell ⟨w.heap.size, 0, none⟩ (.int .u64 (cn : Int)))) := inX_put (inX_self _ _) (p := ⟨w.heap.size, 0, none⟩) (.inl (by simp)) _
    rw [hcn, hwd]
    clear hcn hwd HW HC HG HO
    generalize wr.drew.setCell ⟨w.heap.size, 0, none⟩ (.int .u64 (cn : Int)) = W1 at *
    obtain ⟨dd, br', dw, hd1, hd2, hd3, hd4, hd5, hd6, hd7⟩ := sub_words hxk hwd2 hbr
    have HD5 := LH hd5
    clear hd5
    have c3 := HW1.out.2.2.2.2 k
    go_wp2_with fail
    refine And.intro HX1.out ?_
    repeat (refine wpLex_still (by rfl) ?_; go_big_quiet_step (fail); refine wpQuiet_nil ?_)
    refine wpLex_nil ?_
    have c4 := HW1.out.2.2.2.1 k hlt
    go_wp2_with fail
    go_roundw
    case rel =>
     refine ⟨k + 1, br', cn, cur.set k dw, by omega, by go_num, by go_num, hd7, hcn2, HW1.out.put hlt hd6, ?_, fun j hj => ?_, HST.out wd dw br' cn HPC.out HD5.out, HSC.out wd cn HPC.out, HO1.out.put hlt _, grown_put HG1.out _ _⟩
     ·exact boxed_far HC1.out (by simp; have := HB.out; omega) _
     ·rw [getD_set_other (by omega)]
      exact HS.out j (by omega)
    case measure => simp [intOf]; omega
   ·have hb1 : decide ((k : Int) < (m : Int)) = false := by simp; omega
    have hy0 : vs.getD k 0 = 0 := by
     have : vs.length ≤ k := by rw [HV.out.1]; omega
     simp [List.getD, this]
    rw [hy0, Nat.zero_mul] at HST HSC hm1
    clear hy0
    go_wp2_with fail
    have d1 : wr.drew.cell? ⟨b, off + k, none⟩ = _ := c1
    have xd1 := fun y : ExtX wr.drew [w.heap.size] => y.cell d1 (by simp; have := HB.out; omega)
    refine wp_region_lex (C := InX wr.drew [w.heap.size]) (by kernel_rfl) (by kernel_rfl) (inX_self _ _) ?_
    repeat (refine wpLex_still (by rfl) ?_; go_big_quiet_step (fail); refine wpQuiet_nil ?_)
    refine wpLex_move (by rfl) (by rfl) ?_
    go_wp2_with fail
    refine (next_any w.heap.size 0 cc 0 wr.drew rfl (by omega) HC.out.cell HC.out.frozen).mono ?_
    rintro e w1 ⟨rfl, rfl⟩
    obtain ⟨wd, hwd⟩ : ∃ wd, (0 + cc) % 4294967296 = wd := ⟨_, rfl⟩
    obtain ⟨cn, hcn⟩ : ∃ cn, (0 + cc) / 4294967296 = cn := ⟨_, rfl⟩
    have hcn2 : cn < 4294967296 := by omega
    have hwd2 : wd < 4294967296 := by omega
    have HPC : Hid (0 + cc = wd + 4294967296 * cn) := by unfold Hid; omega
    have HW1 := LH ((HW.out.keep (w' := wr.drew) rfl).far (p := ⟨w.heap.size, 0, none⟩) (by simp; have := HB.out; omega) (.int .u64 (cn : Int)))
    have HC1 := LH (Boxed.set (W := wr.drew) (.int .u64 (cn : Int)) HC.out)
    have HG1 := LH (grown_new (grown_drew HG.out) (p := ⟨w.heap.size, 0, none⟩) (by simp) (.int .u64 (cn : Int)))
    have HO1 := LH (HO.out.keep (w2 := wr.drew.setCell ⟨w.heap.size, 0, none⟩ (.int .u64 (cn : Int))) (Below.heap_setCell wr.drew ⟨w.heap.size, 0, none⟩ _ b (by simp; have := HB.out; omega)))
    have HX1 : Hid (InX wr.drew [w.heap.size] (wr.drew.setCell ⟨w.heap.size, 0, none⟩ (.int .u64 (cn : Int)))) := inX_put (inX_self _ _) (p := ⟨w.heap.size, 0, none⟩) (.inl (by simp)) _
    rw [hcn, hwd]
    clear hcn hwd HW HC HG HO
    generalize wr.drew.setCell ⟨w.heap.size, 0, none⟩ (.int .u64 (cn : Int)) = W1 at *
    obtain ⟨dd, br', dw, hd1, hd2, hd3, hd4, hd5, hd6, hd7⟩ := sub_words hxk hwd2 hbr
    have HD5 := LH hd5
    clear hd5
    have c3 := HW1.out.2.2.2.2 k
    go_wp2_with fail
    refine And.intro HX1.out ?_
    repeat (refine wpLex_still (by rfl) ?_; go_big_quiet_step (fail); refine wpQuiet_nil ?_)
    refine wpLex_nil ?_
    have c4 := HW1.out.2.2.2.1 k hlt
    go_wp2_with fail
    go_roundw
    case rel =>
     refine ⟨k + 1, br', cn, cur.set k dw, by omega, by go_num, by go_num, hd7, hcn2, HW1.out.put hlt hd6, ?_, fun j hj => ?_, HST.out wd dw br' cn HPC.out HD5.out, HSC.out wd cn HPC.out, HO1.out.put hlt _, grown_put HG1.out _ _⟩
     ·exact boxed_far HC1.out (by simp; have := HB.out; omega) _
     ·rw [getD_set_other (by omega)]
      exact HS.out j (by omega)
    case measure => simp [intOf]; omega
  ·obtain rfl : k = m + 1 := by omega
   have hcc0 : cc = 0 := by
    have h1 := HI.out
    rw [List.take_of_length_le (by rw [HV.out.1]; omega)] at h1
    have h2 := natOf_lt hwv
    rw [HV.out.1] at h2
    rcases Nat.eq_zero_or_pos cc with h3 | h3
    ·exact h3
    ·exfalso
     have h4 : natOf vs * f ≤ natOf vs * 4294967296 := Nat.mul_le_mul_left _ (by omega)
     have h5 : 4294967296 ^ (m + 1) * 1 ≤ 4294967296 ^ (m + 1) * cc := Nat.mul_le_mul_left _ h3
     rw [Nat.pow_succ] at h1 h5
     have h6 : (natOf vs + 1) * 4294967296 ≤ 4294967296 ^ m * 4294967296 := Nat.mul_le_mul_right _ h2
     omega
   subst hcc0
   have HE' := HE.out
   rw [List.take_of_length_le (by rw [HW.out.1]; omega), List.take_of_length_le (by rw [HV.out.1]; omega), List.take_of_length_le (by rw [HL.out]; omega), Nat.zero_add] at HE'
   have HF := LH HE'
   clear HE'
   have hz : (((br : Int)) != 0) = (br != 0) := by
    rcases Nat.eq_zero_or_pos br with h | h
    ·subst h; rfl
    ·rw [bne_iff_ne.2 (show br ≠ 0 by omega), bne_iff_ne.2 (show (br : Int) ≠ 0 by omega)]
   go_wp2_with fail
   go_ret
   exact ⟨cur, br, rfl, hbr, HW.out, HF.out, HO.out, HG.out⟩
end Go.Proofs.YtjinpfnefeiooaaGreat
namespace Go.Proofs.YtjinpfnefeiooaaGreat
theorem hi_zero {xs : List Nat} {p : Nat} (h : natOf xs < 4294967296 ^ p) {i : Nat} (hi : p ≤ i) : xs.getD i 0 = 0 := by
 rcases Nat.lt_or_ge i xs.length with hl | hl
 ·have h1 := natOf_set hl 0
  rw [Nat.mul_zero, Nat.add_zero] at h1
  rcases Nat.eq_zero_or_pos (xs.getD i 0) with h2 | h2
  ·exact h2
  ·exfalso
   have h3 : 4294967296 ^ i * 1 ≤ 4294967296 ^ i * xs.getD i 0 := Nat.mul_le_mul_left _ h2
   have h4 : (4294967296 : Nat) ^ p ≤ 4294967296 ^ i := Nat.pow_le_pow_right (by decide) hi
   omega
 ·simp [List.getD, hl]
theorem natOf_all_zero : ∀ {xs : List Nat}, (∀ i, xs.getD i 0 = 0) → natOf xs = 0
 | [], _ => rfl
 | x :: xs, h => by
  have h0 := h 0
  have h1 := natOf_all_zero (xs := xs) (fun i => by have := h (i + 1); simpa [List.getD] using this)
  simp [List.getD] at h0
  simp [natOf, h0, h1]
theorem drop_zero_of {xs : List Nat} {p : Nat} (h : ∀ i, p ≤ i → xs.getD i 0 = 0) : natOf (xs.drop p) = 0 :=
 natOf_all_zero fun i => by have := h (p + i) (by omega); simpa [List.getD] using this
theorem lo_lt {xs : List Nat} {p : Nat} (hw : Words xs) (h : ∀ i, p ≤ i → xs.getD i 0 = 0) : natOf xs < 4294967296 ^ p := by
 rcases Nat.lt_or_ge p xs.length with hl | hl
 ·rw [natOf_take_drop xs p (by omega), drop_zero_of h, Nat.mul_zero, Nat.add_zero]
  have := natOf_lt (hw.take p)
  rwa [List.length_take, Nat.min_eq_left (by omega)] at this
 ·exact Nat.lt_of_lt_of_le (natOf_lt hw) (Nat.pow_le_pow_right (by decide) hl)
def midSet (us : List Nat) (k : Nat) (ws : List Nat) : List Nat := us.take k ++ (ws ++ us.drop (k + ws.length))
theorem midSet_len {us ws : List Nat} {k : Nat} (h : k + ws.length ≤ us.length) : (midSet us k ws).length = us.length := by
 simp [midSet]; omega
theorem window_val {us : List Nat} {k m : Nat} (hl : k + m ≤ us.length) (hz : ∀ i, k + m ≤ i → us.getD i 0 = 0) : natOf us = natOf (us.take k) + 4294967296 ^ k * natOf ((us.drop k).take m) := by
 rw [natOf_take_drop us k (by omega), natOf_take_drop (us.drop k) m (by simp; omega), List.drop_drop, drop_zero_of hz, Nat.mul_zero, Nat.add_zero]
theorem midSet_val {us ws : List Nat} {k : Nat} (hl : k + ws.length ≤ us.length) (hz : ∀ i, k + ws.length ≤ i → us.getD i 0 = 0) : natOf (midSet us k ws) = natOf (us.take k) + 4294967296 ^ k * natOf ws := by
 unfold midSet
 rw [natOf_append, natOf_append, drop_zero_of hz, Nat.mul_zero, Nat.add_zero, List.length_take, Nat.min_eq_left (by omega)]
theorem take_lt {us : List Nat} (hw : Words us) {k : Nat} (h : k ≤ us.length) : natOf (us.take k) < 4294967296 ^ k := by
 have := natOf_lt (hw.take k)
 rwa [List.length_take, Nat.min_eq_left h] at this
theorem long_no {cur lo R X V g win : Nat} (hc : cur = lo + R * X) (hlo : lo < R) (hg1 : X / V ≤ g) (h : win + V * g = X) (hV : 0 < V) :
  lo + R * win < V * R ∧ lo + R * win + V * R * g = cur := by
 have hq : g ≤ X / V := (Nat.le_div_iff_mul_le hV).2 (by rw [Nat.mul_comm]; omega)
 have hg : g = X / V := by omega
 have hw : win < V := by
  have h1 := Nat.div_add_mod X V
  have h2 := Nat.mod_lt X hV
  rw [hg] at h
  omega
 refine ⟨?_, ?_⟩
 ·have : R * (win + 1) ≤ R * V := Nat.mul_le_mul_left _ hw
  rw [Nat.mul_add, Nat.mul_comm R V] at this
  omega
 ·rw [hc, ← h, Nat.mul_add, Nat.mul_comm V R, Nat.mul_assoc]
  omega
theorem long_yes {cur lo R X V g win M cu cc : Nat} (hc : cur = lo + R * X) (hlo : lo < R) (hg2 : g ≤ X / V + 1) (h : win + V * g = X + M) (hV : 0 < V) (hwin : win < M) (hVM : V ≤ M) (hcu : cu < R * M)
  (hs : cu + R * M * cc = lo + R * win + R * V) : 1 ≤ g ∧ cu < V * R ∧ cu + V * R * (g - 1) = cur := by
 have h1 := Nat.div_add_mod X V
 have h2 := Nat.mod_lt X hV
 have hg : g = X / V + 1 := by
  rcases Nat.lt_or_ge (X / V) g with h3 | h3
  ·exact Nat.le_antisymm hg2 h3
  ·exfalso
   have : V * g ≤ V * (X / V) := Nat.mul_le_mul_left _ h3
   omega
 subst hg
 rw [Nat.mul_add, Nat.mul_one] at h
 have e1 : win + V = X % V + M := by omega
 have e2 : R * win + R * V = R * (X % V) + R * M := by rw [← Nat.mul_add, e1, Nat.mul_add]
 have e3 : lo + R * (X % V) < V * R := by
  have : R * (X % V + 1) ≤ R * V := Nat.mul_le_mul_left _ h2
  rw [Nat.mul_add, Nat.mul_comm R V] at this
  omega
 have e4 : V * R ≤ R * M := by rw [Nat.mul_comm V R]; exact Nat.mul_le_mul_left _ hVM
 have hcc : cc = 1 := by
  rcases Nat.lt_or_ge cc 1 with h3 | h3
  ·obtain rfl : cc = 0 := by omega
   rw [Nat.mul_zero] at hs
   omega
  ·rcases Nat.lt_or_ge cc 2 with h4 | h4
   ·omega
   ·exfalso
    have : R * M * 2 ≤ R * M * cc := Nat.mul_le_mul_left _ h4
    omega
 subst hcc
 have e5 : cu = lo + R * (X % V) := by omega
 refine ⟨Nat.le_add_left 1 _, by omega, ?_⟩
 rw [Nat.add_sub_cancel, e5, hc]
 have e6 : R * X = R * (V * (X / V)) + R * (X % V) := by rw [← Nat.mul_add, h1]
 have e7 : V * R * (X / V) = R * (V * (X / V)) := by rw [Nat.mul_comm V R, Nat.mul_assoc]
 omega
theorem long_keep {cur cu V P g Q U : Nat} (h : cu + V * P * g = cur) (hE : cur + V * (P * 4294967296 * Q) = U) : cu + V * (P * (g + 4294967296 * Q)) = U := by
 rw [← hE, ← h, Nat.mul_add P, Nat.mul_add V, ← Nat.mul_assoc V P g, ← Nat.mul_assoc P]
 omega
theorem back_step {c1 cu : List Nat} {k j cc x y : Nat} {vs : List Nat} (hx : cu.getD (k + j) 0 = x) (hy : vs.getD j 0 = y) (h : natOf cu + 4294967296 ^ (k + j) * cc = natOf c1 + 4294967296 ^ k * natOf (vs.take j)) (hj : k + j < cu.length) :
  natOf (cu.set (k + j) ((x + y + cc) % 4294967296)) + 4294967296 ^ (k + j + 1) * ((x + y + cc) / 4294967296) = natOf c1 + 4294967296 ^ k * natOf (vs.take (j + 1)) := by
 have h1 := natOf_set hj ((x + y + cc) % 4294967296)
 rw [hx] at h1
 rw [natOf_take_succ, hy, Nat.mul_add, ← Nat.mul_assoc, ← Nat.pow_add, Nat.pow_succ, Nat.mul_assoc]
 generalize natOf (cu.set (k + j) ((x + y + cc) % 4294967296)) = N1 at *
 generalize (4294967296 : Nat) ^ (k + j) = R at *
 have h2 : (x + y + cc) % 4294967296 + 4294967296 * ((x + y + cc) / 4294967296) = x + y + cc := Nat.mod_add_div _ _
 have h3 : R * ((x + y + cc) % 4294967296) + R * (4294967296 * ((x + y + cc) / 4294967296)) = R * x + R * y + R * cc := by rw [← Nat.mul_add, h2, Nat.mul_add, Nat.mul_add]
 omega
theorem right_word {us : List Nat} {i D D' R : Nat} (hi : i + 1 < us.length) (hD : 4294967296 = D * D') (hD0 : 0 < D) (hw : Words us) (h : natOf us = R * D) :
  (us.getD i 0 + 4294967296 * us.getD (i + 1) 0) / D % 4294967296 = R / 4294967296 ^ i % 4294967296 := by
 have e0 : natOf us / 4294967296 ^ i = natOf (us.drop i) := by
  rw [natOf_take_drop us i (by omega), Nat.add_mul_div_left _ _ (Nat.pow_pos (by decide)), Nat.div_eq_of_lt (take_lt hw (by omega)), Nat.zero_add]
 have e1 : natOf (us.drop i) = us.getD i 0 + 4294967296 * (us.getD (i + 1) 0 + 4294967296 * natOf (us.drop (i + 2))) := by
  rw [drop_cons (show i < us.length by omega), drop_cons (show i + 1 < us.length by omega)]
  rfl
 have e2 : us.getD i 0 + 4294967296 * us.getD (i + 1) 0 = natOf (us.drop i) % (D * (D' * 4294967296)) := by
  rw [← Nat.mul_assoc, ← hD, e1]
  have h1 := hw.getD i
  have h2 := hw.getD (i + 1)
  omega
 rw [e2, Nat.mod_mul_right_div_self, Nat.mod_mod_of_dvd _ (Nat.dvd_mul_left _ _), ← e0, h, Nat.div_div_eq_div_mul, Nat.mul_comm (4294967296 ^ i) D, ← Nat.div_div_eq_div_mul, Nat.mul_div_cancel _ hD0]
theorem WW.window {w w' : World} {b o N k : Nat} {us ws : List Nat} (h : WW w b o N us) (h' : WW w' b (o + k) ws.length ws) (ho : Outside w w' b (o + k) ws.length) (hk : k + ws.length ≤ N) : WW w' b o N (midSet us k ws) := by
 obtain ⟨h1, h2, h3, h4, h5⟩ := h
 obtain ⟨_, g2, g3, g4, g5⟩ := h'
 have hl := midSet_len (us := us) (ws := ws) (k := k) (by omega)
 refine ⟨by rw [hl, h1], (h2.take k).append (g2.append (h2.drop _)), g3, fun i hi => ?_, fun i => ?_⟩
 ·rcases Nat.lt_or_ge i k with hik | hik
  ·rw [(ho (o + i) (.inl (by omega))).1, h4 i hi]
   congr 3
   simp [midSet, List.getD, List.getElem?_append, show i < us.length by omega, show i < min k us.length by omega]
  ·rcases Nat.lt_or_ge i (k + ws.length) with hi2 | hi2
   ·obtain ⟨j, rfl⟩ : ∃ j, i = k + j := ⟨i - k, by omega⟩
    rw [← Nat.add_assoc, g4 j (by omega)]
    congr 3
    simp [midSet, List.getD, List.getElem?_append, show ¬ (k + j < min k us.length) by omega, show k + j - min k us.length = j by omega, show j < ws.length by omega]
   ·rw [(ho (o + i) (.inr (by omega))).1, h4 i hi]
    congr 3
    obtain ⟨j, rfl⟩ : ∃ j, i = k + ws.length + j := ⟨i - (k + ws.length), by omega⟩
    simp [midSet, List.getD, List.getElem?_append, show ¬ (k + ws.length + j < min k us.length) by omega, show k + ws.length + j - min k us.length = ws.length + j by omega, show ¬ (ws.length + j < ws.length) by omega]
 ·rcases Nat.lt_or_ge i k with hik | hik
  ·rw [(ho (o + i) (.inl (by omega))).2, h5 i]
  ·obtain ⟨j, rfl⟩ : ∃ j, i = k + j := ⟨i - k, by omega⟩
   rw [← Nat.add_assoc]
   exact g5 j
end Go.Proofs.YtjinpfnefeiooaaGreat
namespace Go.Proofs.YtjinpfnefeiooaaGreat
open Go.RowKit

theorem shift_words {ys S : List Nat} {p s : Nat} (hl : ys.length = p + 2) (hw : Words ys) (hs32 : s ≤ 31) (hs : ys.getD (p + 1) 0 * 2 ^ s < 4294967296) (hS : natOf S = natOf ys * 2 ^ s) (hsl : S.length = p + 3) : natOf (S.take (p + 2)) = natOf ys * 2 ^ s := by
 have h1 : natOf S < 4294967296 ^ (p + 2) := by
  rw [hS, ← natOf_take_full hl, natOf_take_succ]
  have h2 := take_lt hw (k := p + 1) (by omega)
  have h3 : (natOf (ys.take (p + 1)) + 4294967296 ^ (p + 1) * ys.getD (p + 1) 0) * 2 ^ s < 4294967296 ^ (p + 1) * (ys.getD (p + 1) 0 + 1) * 2 ^ s := Nat.mul_lt_mul_of_pos_right (by rw [Nat.mul_add]; omega) (Nat.two_pow_pos s)
  refine Nat.lt_of_lt_of_le h3 ?_
  have e1 : (4294967296 : Nat) ^ (p + 2) = 4294967296 ^ (p + 1) * 4294967296 := Nat.pow_succ ..
  rw [Nat.mul_assoc, e1]
  refine Nat.mul_le_mul_left _ ?_
  have e2 : (4294967296 : Nat) = 2 ^ (32 - s) * 2 ^ s := by rw [← Nat.pow_add, show 32 - s + s = 32 by omega]
  rw [e2] at hs ⊢
  exact Nat.mul_le_mul_right _ (Nat.lt_of_mul_lt_mul_right hs)
 have e3 := natOf_take_succ S (p + 2)
 rw [hi_zero h1 (Nat.le_refl _), Nat.mul_zero, Nat.add_zero, natOf_take_full hsl] at e3
 exact e3.symm.trans hS
theorem long_fin {cur V xs ys D Q : Nat} (hD : 0 < D) (h : cur + V * Q = xs * D) (hV : V = ys * D) (hl : cur < V) : ∃ R, cur = R * D ∧ Q = xs / ys ∧ R = xs % ys ∧ R < ys := by
 have e1 : V * Q = ys * Q * D := by rw [hV, Nat.mul_right_comm]
 have e2 : cur = (xs - ys * Q) * D := by rw [Nat.sub_mul, ← h, e1]; omega
 refine ⟨xs - ys * Q, e2, ?_⟩
 have e3 : xs - ys * Q < ys := by rw [e2, hV] at hl; exact Nat.lt_of_mul_lt_mul_right hl
 have e4 : ys * Q ≤ xs := by
  have : ys * Q * D ≤ xs * D := by omega
  exact Nat.le_of_mul_le_mul_right this hD
 have e5 : xs = (xs - ys * Q) + ys * Q := by omega
 have h1 : xs / ys = Q := by
  rw [e5, Nat.add_mul_div_left _ _ (by omega), Nat.div_eq_of_lt e3, Nat.zero_add]
 have h2 : xs % ys = xs - ys * Q := by
  conv => lhs; rw [e5]
  rw [Nat.add_mul_mod_self_left, Nat.mod_eq_of_lt e3]
 exact ⟨h1.symm, h2.symm, e3⟩
theorem set_drop {qs : List Nat} {k g : Nat} (h : k < qs.length) : natOf ((qs.set k g).drop k) = g + 4294967296 * natOf (qs.drop (k + 1)) := by
 rw [drop_cons (by simp; omega), List.drop_set_of_lt (by omega)]
 simp [natOf, List.getD, h]
set_option maxRecDepth 100000 in
set_option maxHeartbeats 8000000 in
theorem longDiv_any (A : Option Addr) (n c : Nat) (xs : List Nat) (B : Option Addr) (p d : Nat) (ys : List Nat) (w : World) (hx : WordsAt w A n xs) (hy : WordsAt w B (p + 2) ys) (hn : n ≤ 1073741824) (hpn : p + 2 ≤ n) (h0 : 0 < ys.getD (p + 1) 0) :
  Calls Tryz.prog 141 #[.slice A n c, .slice B (p + 2) d] w fun e w' => ∃ (qs rs : List Nat) (Q R : Option Addr) (nq cq nr cr : Nat), e = .returned (.tuple #[.slice Q nq cq, .slice R nr cr]) ∧ natOf qs = natOf xs / natOf ys ∧ natOf rs = natOf xs % natOf ys ∧ NewW w' w.heap.size Q nq cq qs ∧ NewW w' w.heap.size R nr cr rs ∧ nq ≤ n ∧ nr ≤ n ∧ Ext w w' := by
 have hwx := hx.2.1
 have hwy := hy.2.1
 have HX := LH hx
 have HY := LH hy
 obtain ⟨bB, oB, rfl, hbB, hcB⟩ := hy.2.2 (by omega)
 have y1 := hcB (p + 1) (by omega)
 have hyb := hwy.getD (p + 1)
 clear hx hy hcB
 obtain ⟨t, ht⟩ : ∃ t, ys.getD (p + 1) 0 = t := ⟨_, rfl⟩
 have HTOP := LH ht
 rw [ht] at y1 hyb h0
 clear ht
 go_enter Tryz.func141, Tryz.ntmps141
 have h01 : (0 : Int) ≤ (p : Int) := by omega
 go_wp2_with fail
 refine (zeros32_any _ _ hyb h0).mono ?_
 rintro e w1 ⟨s, rfl, hs, HSV, rfl⟩
 have HSV := LH HSV
 go_wp2_with fail
 refine wp_region_lex (C := InX w1.drew []) (by kernel_rfl) (by kernel_rfl) (inX_self _ _) ?_
 repeat (refine wpLex_still (by rfl) ?_; go_big_quiet_step (fail); refine wpQuiet_nil ?_)
 refine wpLex_move (by rfl) (by rfl) ?_
 go_wp2_with fail
 refine (shiftLeft_any A n c xs s w1.drew (HX.out.below (Below.drew (Below.refl _ _))) hn hs).mono ?_
 rintro e w2 ⟨S, rfl, hS, hO, hwS, hE2⟩
 have HS := LH hS
 have HO := LH hO
 clear hS hO
 have hE2' : Ext w1 w2 := ET (Below.drew (Below.refl _ _)) hE2
 go_wp2_with fail
 refine And.intro (inX_ext (inX_self _ _) hE2) ?_
 repeat (refine wpLex_still (by rfl) ?_; go_big_quiet_step (fail); refine wpQuiet_nil ?_)
 refine wpLex_move (by rfl) (by rfl) ?_
 go_wp2_with fail
 refine (shiftLeft_any (some ⟨bB, oB, none⟩) (p + 2) d ys s w2 (HY.out.below hE2') (by omega) hs).mono ?_
 rintro e w3 ⟨V, rfl, hV, hOV, hwV, hE3⟩
 have HV := LH hV
 have HOV := LH hOV
 have HO3 := LH (HO.out.ext hE3)
 have hE13 : Ext w1 w3 := ET hE2' hE3
 have HX3 : Hid (InX w1.drew [] w3) := inX_ext (inX_self _ _) (ET hE2 hE3)
 have hsz2 : w1.heap.size + 1 < w2.heap.size := HO.out.lt.1
 clear hV hOV HO
 obtain ⟨bv, hbv⟩ : ∃ bv, w2.heap.size + 1 = bv := ⟨_, rfl⟩
 have hbv1 : w1.heap.size + 1 < bv := by omega
 obtain ⟨b0, hb0⟩ : ∃ b0, w2.heap.size = b0 := ⟨_, rfl⟩
 obtain ⟨bu, hbu⟩ : ∃ bu, w1.heap.size + 1 = bu := ⟨_, rfl⟩
 have e1 : w1.drew.heap.size + 1 = bu := hbu
 rw [hbv, hb0] at HOV
 rw [e1] at HO3
 rw [hbu] at hbv1
 rw [hbv, hbu]
 have hB1 : w1.heap.size ≤ bu := by omega
 clear hbv hb0 e1 hsz2 hbu
 go_wp2_with fail
 refine And.intro HX3.out ?_
 repeat (refine wpLex_still (by rfl) ?_; go_big_quiet_step (fail); refine wpQuiet_nil ?_)
 refine wpLex_nil ?_
 obtain ⟨nq, hnq1, hnq2⟩ : ∃ nq, n ≤ nq + (p + 2) ∧ nq + (p + 2) ≤ n := ⟨n - (p + 2), by omega, by omega⟩
 have hnqz : (n : Int) - ((p : Int) + 2) = (nq : Int) := by omega
 have hmk := make_full (nq + 1) (by omega) ((nq : Int) + 1) (by omega)
 have HQ0 := LH (own_made w3 w1.heap.size (nq + 1) hE13.size (by omega))
 go_wp2_with fail
 have hvl : V.length = p + 3 := HOV.out.len
 have HWU := LH ((HO3.out.ww hwS).ext (Ext.al Ext.rfl' (.cells (madeCells #[.int .u32 0] (nq + 1)) 44)))
 have HWV := LH (((HOV.out.ww hwV).sub 0 (p + 2) (by omega)).ext (Ext.al Ext.rfl' (.cells (madeCells #[.int .u32 0] (nq + 1)) 44)))
 have HWQ := LH (OwnW.ww (g := w3.heap.size) (c := nq + 1) HQ0.out (Words.replicate (nq + 1)))
 have HVN : Hid (natOf ((V.drop 0).take (p + 2)) = natOf ys * 2 ^ s) := by unfold Hid; rw [List.drop_zero]; exact shift_words HY.out.1 hwy hs (by rw [HTOP.out]; exact HSV.out) HV.out hvl
 have hE0 : Ext w1 (w3.alloc (.cells (madeCells #[.int .u32 0] (nq + 1)) 44)) := Ext.al hE13 _
 have hbq : bu < w3.heap.size ∧ bv < w3.heap.size := ⟨HO3.out.lt.1, HOV.out.lt.1⟩
 have hB3 : w1.heap.size ≤ w3.heap.size := hE13.size
 have HSL := LH HO3.out.len
 generalize (V.drop 0).take (p + 2) = vs at *
 generalize w3.alloc (.cells (madeCells #[.int .u32 0] (nq + 1)) 44) = W0 at *
 generalize w3.heap.size = bq at *
 rw [Nat.add_zero] at HWV
 have HST : Hid (natOf S < natOf vs * 4294967296 ^ (nq + 1)) := by
  unfold Hid
  rw [HS.out, HVN.out, Nat.mul_right_comm]
  refine Nat.mul_lt_mul_of_pos_right ?_ (Nat.two_pow_pos s)
  have h1 := natOf_lt hwx
  rw [HX.out.1] at h1
  have h2 := natOf_take_succ ys (p + 1)
  rw [natOf_take_full HY.out.1, HTOP.out] at h2
  have h3 : 4294967296 ^ (p + 1) * 1 ≤ 4294967296 ^ (p + 1) * t := Nat.mul_le_mul_left _ h0
  have h4 : 4294967296 ^ (p + 1) * 4294967296 ^ (nq + 1) ≤ natOf ys * 4294967296 ^ (nq + 1) := Nat.mul_le_mul_right _ (by omega)
  rw [← Nat.pow_add, show p + 1 + (nq + 1) = n by omega] at h4
  omega
 have HV0 : Hid (0 < natOf vs) := by
  unfold Hid
  rcases Nat.eq_zero_or_pos (natOf vs) with h | h
  ·have := HST.out; rw [h] at this; omega
  ·exact h
 have HVL : Hid (natOf vs < 4294967296 ^ (p + 2)) := by have := natOf_lt HWV.out.2.1; rwa [HWV.out.1] at this
 have hvt : 0 < vs.getD (p + 1) 0 := by
  rcases Nat.eq_zero_or_pos (vs.getD (p + 1) 0) with h | h
  ·exfalso
   have h2 := natOf_take_succ ys (p + 1)
   rw [natOf_take_full HY.out.1, HTOP.out] at h2
   have h3 : 4294967296 ^ (p + 1) * 1 ≤ 4294967296 ^ (p + 1) * t := Nat.mul_le_mul_left _ h0
   have h4 := natOf_take_succ vs (p + 1)
   rw [natOf_take_full HWV.out.1, h, Nat.mul_zero, Nat.add_zero, HVN.out] at h4
   have h5 := take_lt HWV.out.2.1 (k := p + 1) (by rw [HWV.out.1]; omega)
   have h6 : natOf ys * 1 ≤ natOf ys * 2 ^ s := Nat.mul_le_mul_left _ (Nat.two_pow_pos s)
   omega
  ·exact h
 clear HX3 HO3 HOV HQ0 hE13
 go_loopw [10, 11, 12, 13, 14] (fun kv _ _ _ _ wr => ∃ (K : Nat) (cur qs : List Nat), K ≤ nq + 1 ∧ kv = .int .i64 ((K : Int) - 1) ∧ Hid (WW wr bu 0 (n + 1) cur) ∧ Hid (WW wr bv 0 (p + 2) vs) ∧ Hid (WW wr bq 0 (nq + 1) qs) ∧ Hid (natOf cur + natOf vs * (4294967296 ^ K * natOf (qs.drop K)) = natOf S) ∧ Hid (natOf cur < natOf vs * 4294967296 ^ K) ∧ Ext w1 wr) (fun kv _ _ _ _ _ => (intOf kv + 1).toNat)
 case atStart => exact ⟨nq + 1, S, List.replicate (nq + 1) 0, Nat.le_refl _, by go_num, HWU, HWV, HWQ, by unfold Hid; rw [List.drop_eq_nil_of_le (by simp), show natOf [] = 0 from rfl, Nat.mul_zero, Nat.mul_zero, Nat.add_zero], HST, hE0⟩
 case round =>
  obtain ⟨K, cur, qs, hK, rfl, HCU, HCV, HCQ, HE, HL, hbw⟩ := hrel
  by_cases hK0 : K = 0
  ·subst hK0
   have hb0 : decide ((0 : Int) ≤ ((0 : Nat) : Int) - 1) = false := by simp
   have hb2 : decide ((1 : Int) ≤ ((0 : Nat) : Int)) = false := by simp
   obtain ⟨R, hR1, hR2, hR3, hR4⟩ := long_fin (xs := natOf xs) (ys := natOf ys) (D := 2 ^ s) (Nat.two_pow_pos s) (by have := HE.out; rw [Nat.pow_zero, Nat.one_mul, List.drop_zero, HS.out] at this; exact this) HVN.out (by have := HL.out; rw [Nat.pow_zero, Nat.mul_one] at this; exact this)
   have HR1 := LH hR1
   have HR2 := LH hR2
   have HR3 := LH hR3
   have HR4 := LH hR4
   clear hR1 hR2 hR3 hR4
   have hmk2 := make_full (p + 2) (by omega) ((p : Int) + 2) (by omega)
   have HN0 := LH (OwnW.ww (g := wr.heap.size) (c := p + 2) (own_made wr w1.heap.size (p + 2) hbw.size (by omega)) (Words.replicate (p + 2)))
   have hE1 : Ext wr (wr.alloc (.cells (madeCells #[.int .u32 0] (p + 2)) 44)) := Ext.al Ext.rfl' _
   have HU1 := LH (HCU.out.ext hE1)
   have HQ1 := LH (HCQ.out.ext hE1)
   have hbw1 := ET hbw hE1
   have hru : bu < wr.heap.size := HCU.out.2.2.1
   have hrq : bq < wr.heap.size := HCQ.out.2.2.1
   have hrw := hbw.size
   go_wp2_with fail
   generalize wr.alloc (.cells (madeCells #[.int .u32 0] (p + 2)) 44) = W1 at *
   generalize wr.heap.size = br at *
   go_loopw [15, 116] (fun _ t wr => ∃ (i : Nat) (rs : List Nat), i ≤ p + 2 ∧ t = .int .i64 i ∧ Hid (WW wr br 0 (p + 2) rs) ∧ Hid (WW wr bu 0 (n + 1) cur) ∧ Hid (WW wr bq 0 (nq + 1) qs) ∧ Hid (natOf (rs.take i) = R % 4294967296 ^ i) ∧ Ext w1 wr) (fun _ t _ => p + 2 - (intOf t).toNat)
   case atStart => exact ⟨0, List.replicate (p + 2) 0, by omega, rfl, HN0, HU1, HQ1, by unfold Hid; rw [List.take_zero, Nat.pow_zero, Nat.mod_one]; rfl, hbw1⟩
   case round =>
    obtain ⟨i, rs, hi, rfl, HN2, HU2, HQ2, HM2, hbw2⟩ := hrel
    by_cases hilt : i < p + 2
    ·have c1 := HU2.out.2.2.2.1 i (by omega)
     have c2 := HU2.out.2.2.2.1 (i + 1) (by omega)
     have c3 := HN2.out.2.2.2.1 i hilt
     have c4 := HN2.out.2.2.2.2 i
     rw [Nat.zero_add] at c1 c2 c3 c4
     have hub := HU2.out.2.1.getD i
     have hub2 := HU2.out.2.1.getD (i + 1)
     have HRW := LH (right_word (us := cur) (i := i) (D := 2 ^ s) (D' := 2 ^ (32 - s)) (R := R) (by rw [HU2.out.1]; omega) (by rw [← Nat.pow_add, show s + (32 - s) = 32 by omega]) (Nat.two_pow_pos s) HU2.out.2.1 HR1.out)
     generalize cur.getD i 0 = a at *
     generalize cur.getD (i + 1) 0 = b at *
     have hor := or_words a b hub hub2
     obtain ⟨X, hX⟩ : ∃ X, a + 4294967296 * b = X := ⟨_, rfl⟩
     rw [hX] at hor HRW
     have hXb : X < 18446744073709551616 := by omega
     obtain ⟨q, hq⟩ : ∃ q, X / 2 ^ s = q := ⟨_, rfl⟩
     have hqz : (X : Int) / 2 ^ s = (q : Int) := by rw [← hq]; simp
     have hqb : q < 18446744073709551616 := Nat.lt_of_le_of_lt (by rw [← hq]; exact Nat.div_le_self _ _) hXb
     rw [hq] at HRW
     obtain ⟨rw_, hrw2⟩ : ∃ r, q % 4294967296 = r := ⟨_, rfl⟩
     have hrwz : (q : Int) % 4294967296 = (rw_ : Int) := by omega
     have hrwb : rw_ < 4294967296 := by omega
     rw [hrw2] at HRW
     clear hX hq hrw2
     have hi0 : (0 : Int) ≤ (i : Int) := by omega
     have hi1 : (i : Int) < (p : Int) + 2 := by omega
     have hi2 : (i : Int) < (n : Int) + 1 := by omega
     have hi3 : (i : Int) + 1 < (n : Int) + 1 := by omega
     have d1 : wr.drew.cell? ⟨bu, i, none⟩ = _ := c1
     have d2 : wr.drew.cell? ⟨bu, i + 1, none⟩ = _ := c2
     have x1 := fun y : ExtX wr.drew [] => y.cell d1 (by simp)
     have x2 := fun y : ExtX wr.drew [] => y.cell d2 (by simp)
     have e3 : wr.drew.cell? ⟨br, i, none⟩ = _ := c3
     have e4 : wr.drew.frozen? ⟨br, i, none⟩ = _ := c4
     go_wp2_with fail
     refine wp_region_lex (C := InX wr.drew []) (by kernel_rfl) (by kernel_rfl) (inX_self _ _) ?_
     repeat (refine wpLex_still (by rfl) ?_; go_big_quiet_step (fail); refine wpQuiet_nil ?_)
     refine wpLex_last (by rfl) (by kernel_rfl) (by rfl) ?_
     go_wp2_with fail
     refine And.intro trivial (wpLex_nil ?_)
     go_wp2_with fail
     go_roundw
     case rel =>
      refine ⟨i + 1, rs.set i rw_, by omega, by go_num, ?_, (HU2.out.keep (w' := wr.drew) rfl).far (by simp; omega) _, (HQ2.out.keep (w' := wr.drew) rfl).far (by simp; omega) _, ?_, Below.setCell (Below.drew hbw2) (by simp; omega) _⟩
      ·have := (HN2.out.keep (w' := wr.drew) rfl).put (j := i) hilt hrwb
       rw [Nat.zero_add] at this
       exact this
      ·unfold Hid
       have e0 : (rs.set i rw_).take (i + 1) = rs.take i ++ [rw_] := by
        have hl : i < rs.length := by rw [HN2.out.1]; exact hilt
        rw [List.take_add_one, List.take_set_of_le (Nat.le_refl _)]
        simp [hl]
       rw [e0, natOf_snoc, List.length_take, HN2.out.1, Nat.min_eq_left (by omega), HM2.out, HRW.out, Nat.pow_succ, Nat.mod_mul]
     case measure => simp [intOf]; omega
    ·obtain rfl : i = p + 2 := by omega
     have hlt9 : R < 4294967296 ^ (p + 2) := by
      have h1 := natOf_lt hwy
      rw [HY.out.1] at h1
      have := HR4.out
      omega
     have HN9 : Hid (natOf rs = R) := by
      have := HM2.out
      rw [natOf_take_full HN2.out.1, Nat.mod_eq_of_lt hlt9] at this
      exact this
     clear hlt9
     go_wp2_with fail
     go_ret2
     exact ⟨qs, rs, _, _, _, _, _, _, rfl, HR2.out, HN9.out.trans HR3.out, HQ2.out.new (Nat.le_refl _) (by simp [maxLen]; omega) (by omega), HN2.out.new (Nat.le_refl _) (by simp [maxLen]; omega) (by omega), by omega, by omega, hbw2⟩
  ·obtain ⟨k, rfl⟩ : ∃ k, K = k + 1 := ⟨K - 1, by omega⟩
   clear hK0
   rw [show (((k + 1 : Nat) : Int) - 1) = (k : Int) by omega]
   have hk1 : (0 : Int) ≤ (k : Int) := by omega
   have hcl : cur.length = n + 1 := HCU.out.1
   have HZ : Hid (∀ i, k + (p + 2 + 1) ≤ i → cur.getD i 0 = 0) := fun i hi => hi_zero (p := k + (p + 2 + 1)) (by
    have h1 := HL.out
    have h2 : natOf vs * 4294967296 ^ (k + 1) ≤ 4294967296 ^ (p + 2) * 4294967296 ^ (k + 1) := Nat.mul_le_mul_right _ (Nat.le_of_lt HVL.out)
    rw [← Nat.pow_add, show p + 2 + (k + 1) = k + (p + 2 + 1) by omega] at h2
    omega) hi
   have HVAL := LH (window_val (us := cur) (k := k) (m := p + 2 + 1) (by omega) HZ.out)
   have HLO := LH (take_lt HCU.out.2.1 (k := k) (by omega))
   have HW := LH (HCU.out.sub k (p + 2 + 1) (by omega))
   rw [Nat.zero_add] at HW
   obtain ⟨win, hwin⟩ : ∃ win, (cur.drop k).take (p + 2 + 1) = win := ⟨_, rfl⟩
   rw [hwin] at HW HVAL
   have HXV : Hid (natOf win < natOf vs * 4294967296) := by
    have h1 := HL.out
    rw [HVAL.out, Nat.pow_succ, Nat.mul_left_comm] at h1
    exact Nat.lt_of_mul_lt_mul_left (a := 4294967296 ^ k) (by omega)
   clear hwin
   have hsub1 : k + (p + 2) + 1 - k = p + 3 := by omega
   go_wp2_with fail
   rw [hsub1]
   refine (estimate_any (some ⟨bu, k, none⟩) _ win (some ⟨bv, 0, none⟩) p _ vs wr HW.out.words HCV.out.words (by omega) hvt HXV.out).mono ?_
   rintro e w4 ⟨g, rfl, hg1, hg2, hg3, hE4⟩
   have HG1 := LH hg1
   have HG2 := LH hg2
   have HW4 := LH (HW.out.ext hE4)
   have HU4 := LH (HCU.out.ext hE4)
   have HV4 := LH (HCV.out.ext hE4)
   have HQ4 := LH (HCQ.out.ext hE4)
   have hb4 : Ext w1 w4 := ET hbw hE4
   clear hg1 hg2 HW HCU HCV HCQ
   go_wp2_with fail
   refine (subM_any bu k (p + 2) _ win (some ⟨bv, 0, none⟩) _ vs g w4 HW4.out HV4.out.words (fun b o e => by injection e with e; injection e with e1 e2; omega) (by omega) hg3).mono ?_
   rintro e w5 ⟨win', br, rfl, hbr, hW5, hEq, hOut, hGr⟩
   have hwl : win'.length = p + 2 + 1 := hW5.1
   have HU5 : Hid (WW w5 bu 0 (n + 1) (midSet cur k win')) := by
    refine WW.window HU4.out (by rw [hwl, Nat.zero_add]; exact hW5) (by rw [hwl, Nat.zero_add]; exact hOut) (by omega)
   have HV5 := LH (HV4.out.keep (hGr.block bv HV4.out.2.2.1 (by intro e; injection e; omega)))
   have HQ5 := LH (HQ4.out.keep (hGr.block bq HQ4.out.2.2.1 (by intro e; injection e; omega)))
   have hb5 : Ext w1 w5 := ext_grownW hb4 hGr (fun j e => by injection e; omega)
   have HM5 := LH (midSet_val (us := cur) (ws := win') (k := k) (by omega) (by rw [hwl]; exact HZ.out))
   have HEQ := LH hEq
   have HWN := LH (natOf_lt hW5.2.1)
   clear hW5 hEq hOut hGr HW4 HU4 HV4 HQ4
   by_cases hb0 : br = 0
   ·subst hb0
    obtain ⟨HR1, HR2⟩ := long_no HVAL.out HLO.out HG1.out (by have := HEQ.out; rw [Nat.mul_zero, Nat.add_zero] at this; exact this) HV0.out
    rw [← HM5.out] at HR1 HR2
    have HR1 := LH HR1
    have HR2 := LH HR2
    generalize midSet cur k win' = cu at *
    have q1 := HQ5.out.2.2.2.1 k (by omega)
    have q2 := HQ5.out.2.2.2.2 k
    rw [Nat.zero_add] at q1 q2
    go_wp2_with fail
    go_roundw
    case rel =>
     refine ⟨k, cu, qs.set k g, by omega, by go_num, HU5.out.far (by simp; omega) _, HV5.out.far (by simp; omega) _, ?_, ?_, HR1, ?_⟩
     ·have := HQ5.out.put (j := k) (by omega) hg3
      rw [Nat.zero_add] at this
      exact this
     ·unfold Hid
      rw [set_drop (by rw [HQ5.out.1]; omega)]
      exact long_keep HR2.out (by rw [← Nat.pow_succ]; exact HE.out)
     ·exact Below.setCell hb5 (by simp; omega) _
    case measure => simp [intOf]
   ·obtain rfl : br = 1 := by omega
    clear hb0 hbr
    have hg0 : 1 ≤ g := by
     rcases Nat.eq_zero_or_pos g with h | h
     ·exfalso
      have h1 := HEQ.out
      have h2 := HWN.out
      rw [hwl] at h2
      rw [h, Nat.mul_zero, Nat.mul_one] at h1
      omega
     ·exact h
    have hg0z : (1 : Int) ≤ (g : Int) := by omega
    go_wp2_with fail
    refine (carrier_any 0 _).mono ?_
    rintro e w6 ⟨rfl, rfl⟩
    go_wp2_with fail
    have HC6 := LH (Boxed.new w5 97 (.int .u64 ((0 : Nat) : Int)))
    have hE6 : Ext w5 (w5.alloc (.cells #[.int .u64 ((0 : Nat) : Int)] 97)) := Ext.al Ext.rfl' _
    have HU6 := LH (HU5.out.ext hE6)
    have HV6 := LH (HV5.out.ext hE6)
    have HQ6 := LH (HQ5.out.ext hE6)
    have hb6 := ET hb5 hE6
    have hgu : bu < w5.heap.size := HU5.out.2.2.1
    have hgv : bv < w5.heap.size := HV5.out.2.2.1
    have hgq : bq < w5.heap.size := HQ5.out.2.2.1
    generalize w5.alloc (.cells #[.int .u64 ((0 : Nat) : Int)] 97) = W6 at *
    generalize w5.heap.size = gc at *
    obtain ⟨c1, hc1⟩ : ∃ c1, midSet cur k win' = c1 := ⟨_, rfl⟩
    rw [hc1] at HU6 HM5
    have HZ1 : Hid (∀ i, k + (p + 2) + 1 ≤ i → c1.getD i 0 = 0) := fun i hi => hi_zero (p := k + (p + 2) + 1) (by
     rw [HM5.out]
     have h1 := HLO.out
     have h2 := HWN.out
     rw [hwl] at h2
     have h3 : 4294967296 ^ k * (natOf win' + 1) ≤ 4294967296 ^ k * 4294967296 ^ (p + 2 + 1) := Nat.mul_le_mul_left _ h2
     rw [← Nat.pow_add, ← Nat.add_assoc k (p + 2) 1, Nat.mul_add, Nat.mul_one] at h3
     omega) hi
    clear hc1 HU5 HV5 HQ5
    go_loopw [13, 14, 71] (fun _ _ t wr => ∃ (j cc : Nat) (cu : List Nat), j ≤ p + 2 ∧ t = .int .i64 j ∧ cc < 4294967296 ∧ Hid (WW wr bu 0 (n + 1) cu) ∧ Hid (WW wr bv 0 (p + 2) vs) ∧ Hid (WW wr bq 0 (nq + 1) qs) ∧ Hid (Boxed wr gc 97 (.int .u64 (cc : Int))) ∧ Hid (natOf cu + 4294967296 ^ (k + j) * cc = natOf c1 + 4294967296 ^ k * natOf (vs.take j)) ∧ Hid (∀ i, k + j ≤ i → cu.getD i 0 = c1.getD i 0) ∧ Ext w1 wr) (fun _ _ t _ => p + 2 - (intOf t).toNat)
    case atStart => exact ⟨0, 0, c1, by omega, rfl, by omega, HU6, HV6, HQ6, HC6, by unfold Hid; rw [Nat.mul_zero, List.take_zero, show natOf [] = 0 from rfl, Nat.mul_zero], fun _ _ => rfl, hb6⟩
    case round =>
     obtain ⟨j, cc, cu, hj, rfl, hcc, HU7, HV7, HQ7, HC7, HE7, HS7, hb7⟩ := hrel
     by_cases hjlt : j < p + 2
     ·have u1 := HU7.out.2.2.2.1 (k + j) (by omega)
      have u2 := HU7.out.2.2.2.2 (k + j)
      have v1 := HV7.out.2.2.2.1 j hjlt
      rw [HS7.out (k + j) (Nat.le_refl _)] at u1
      rw [Nat.zero_add] at u1 u2 v1
      have hxb : c1.getD (k + j) 0 < 4294967296 := HU6.out.2.1.getD _
      have hyb2 : vs.getD j 0 < 4294967296 := HV6.out.2.1.getD _
      have HBS := LH (back_step (c1 := c1) (cu := cu) (HS7.out (k + j) (Nat.le_refl _)) rfl HE7.out (by rw [HU7.out.1]; omega))
      generalize c1.getD (k + j) 0 = x at *
      generalize vs.getD j 0 = y at *
      have h11 : (0 : Int) ≤ (k : Int) + (j : Int) := by omega
      have h12 : (k : Int) + (j : Int) < (n : Int) + 1 := by omega
      have h13 : (j : Int) < (p : Int) + 2 := by omega
      have f1 := HC7.out.cell
      have f2 := HC7.out.frozen
      go_wp2_with fail
      refine (next_any gc (x + y) cc ((x : Int) + (y : Int)) wr (by omega) (by omega) f1 f2).mono ?_
      rintro e w8 ⟨rfl, rfl⟩
      obtain ⟨xn, hxn⟩ : ∃ xn, (x + y + cc) % 4294967296 = xn := ⟨_, rfl⟩
      obtain ⟨cn, hcn⟩ : ∃ cn, (x + y + cc) / 4294967296 = cn := ⟨_, rfl⟩
      have hcn2 : cn < 4294967296 := by omega
      have hxn2 : xn < 4294967296 := by omega
      rw [hxn, hcn] at HBS
      have HU8 := LH (HU7.out.far (p := ⟨gc, 0, none⟩) (by simp; omega) (.int .u64 (cn : Int)))
      have HV8 := LH (HV7.out.far (p := ⟨gc, 0, none⟩) (by simp; omega) (.int .u64 (cn : Int)))
      have HQ8 := LH (HQ7.out.far (p := ⟨gc, 0, none⟩) (by simp; omega) (.int .u64 (cn : Int)))
      have HC8 := LH (HC7.out.set (.int .u64 (cn : Int)))
      have hb8 : Ext w1 (wr.setCell ⟨gc, 0, none⟩ (.int .u64 (cn : Int))) := Below.setCell hb7 (p := ⟨gc, 0, none⟩) (by simp; omega) _
      rw [hcn, hxn]
      clear hxn hcn f1 f2 u1 u2 HU7 HV7 HQ7 HC7
      generalize wr.setCell ⟨gc, 0, none⟩ (.int .u64 (cn : Int)) = W8 at *
      have u3 := HU8.out.2.2.2.1 (k + j) (by omega)
      have u4 := HU8.out.2.2.2.2 (k + j)
      rw [Nat.zero_add] at u3 u4
      go_wp2_with fail
      go_roundw
      case rel =>
       refine ⟨j + 1, cn, cu.set (k + j) xn, by omega, by go_num, hcn2, ?_, HV8.out.far (by simp; omega) _, HQ8.out.far (by simp; omega) _, boxed_far HC8.out (by simp; omega) _, HBS, fun i hi => ?_, Below.setCell hb8 (by simp; omega) _⟩
       ·have := HU8.out.put (j := k + j) (by omega) hxn2
        rw [Nat.zero_add] at this
        exact this
       ·rw [getD_set_other (by omega)]
        exact HS7.out i (by omega)
      case measure => simp [intOf]; omega
     ·obtain rfl : j = p + 2 := by omega
      have u1 := HU7.out.2.2.2.1 (k + (p + 2)) (by omega)
      have u2 := HU7.out.2.2.2.2 (k + (p + 2))
      rw [HS7.out (k + (p + 2)) (Nat.le_refl _)] at u1
      rw [Nat.zero_add] at u1 u2
      have hxb : c1.getD (k + (p + 2)) 0 < 4294967296 := HU6.out.2.1.getD _
      have HBS := LH (back_step (y := 0) (c1 := c1) (cu := cu) (HS7.out (k + (p + 2)) (Nat.le_refl _)) (by simp [List.getD, HV6.out.1]) HE7.out (by rw [HU7.out.1]; omega))
      rw [List.take_of_length_le (by rw [HV6.out.1]; omega)] at HBS
      generalize c1.getD (k + (p + 2)) 0 = x at *
      rw [Nat.add_zero x] at HBS
      have h11 : (0 : Int) ≤ (k : Int) + ((p : Int) + 2) := by omega
      have h12 : (k : Int) + ((p : Int) + 2) < (n : Int) + 1 := by omega
      have f1 := HC7.out.cell
      have f2 := HC7.out.frozen
      go_wp2_with fail
      refine (next_any gc x cc (x : Int) wr rfl (by omega) f1 f2).mono ?_
      rintro e w8 ⟨rfl, rfl⟩
      obtain ⟨xn, hxn⟩ : ∃ xn, (x + cc) % 4294967296 = xn := ⟨_, rfl⟩
      obtain ⟨cn, hcn⟩ : ∃ cn, (x + cc) / 4294967296 = cn := ⟨_, rfl⟩
      have hxn2 : xn < 4294967296 := by omega
      rw [hxn, hcn] at HBS
      have HU8 := LH (HU7.out.far (p := ⟨gc, 0, none⟩) (by simp; omega) (.int .u64 (cn : Int)))
      have HV8 := LH (HV7.out.far (p := ⟨gc, 0, none⟩) (by simp; omega) (.int .u64 (cn : Int)))
      have HQ8 := LH (HQ7.out.far (p := ⟨gc, 0, none⟩) (by simp; omega) (.int .u64 (cn : Int)))
      have hb8 : Ext w1 (wr.setCell ⟨gc, 0, none⟩ (.int .u64 (cn : Int))) := Below.setCell hb7 (p := ⟨gc, 0, none⟩) (by simp; omega) _
      rw [hcn, hxn]
      clear hxn hcn f1 f2 u1 u2 HU7 HV7 HQ7 HC7
      generalize wr.setCell ⟨gc, 0, none⟩ (.int .u64 (cn : Int)) = W8 at *
      have HU9 : Hid (WW (W8.setCell ⟨bu, k + (p + 2), none⟩ (.int .u32 (xn : Int))) bu 0 (n + 1) (cu.set (k + (p + 2)) xn)) := by
       have := HU8.out.put (j := k + (p + 2)) (by omega) hxn2
       rw [Nat.zero_add] at this
       exact this
      have HCL : Hid (natOf (cu.set (k + (p + 2)) xn) < 4294967296 ^ (k + (p + 2) + 1)) := lo_lt HU9.out.2.1 (fun i hi => by
       rw [getD_set_other (by omega), HS7.out i (by omega)]
       exact HZ1.out i hi)
      obtain ⟨HR0, HR1, HR2⟩ := long_yes (M := 4294967296 ^ (p + 2 + 1)) (cu := natOf (cu.set (k + (p + 2)) xn)) (cc := cn) HVAL.out HLO.out HG2.out (by have := HEQ.out; rw [Nat.mul_one] at this; exact this) HV0.out (by have := HWN.out; rw [hwl] at this; exact this)
       (Nat.le_of_lt (Nat.lt_of_lt_of_le HVL.out (Nat.pow_le_pow_right (by decide) (by omega)))) (by rw [← Nat.pow_add]; exact HCL.out) (by rw [← Nat.pow_add, ← HM5.out]; exact HBS.out)
      have HR1 := LH HR1
      have HR2 := LH HR2
      clear HR0
      have u3 := HU8.out.2.2.2.1 (k + (p + 2)) (by omega)
      have u4 := HU8.out.2.2.2.2 (k + (p + 2))
      rw [Nat.zero_add] at u3 u4
      have HV9 := LH (HV8.out.far (p := ⟨bu, k + (p + 2), none⟩) (by simp; omega) (.int .u32 (xn : Int)))
      have HQ9 := LH (HQ8.out.far (p := ⟨bu, k + (p + 2), none⟩) (by simp; omega) (.int .u32 (xn : Int)))
      have hb9 : Ext w1 (W8.setCell ⟨bu, k + (p + 2), none⟩ (.int .u32 (xn : Int))) := Below.setCell hb8 (by simp; omega) _
      have q1 := HQ9.out.2.2.2.1 k (by omega)
      have q2 := HQ9.out.2.2.2.2 k
      rw [Nat.zero_add] at q1 q2
      obtain ⟨g1, hg1⟩ : ∃ g1, g - 1 = g1 := ⟨_, rfl⟩
      have hg1z : (g : Int) - 1 = (g1 : Int) := by omega
      have hg1b : g1 < 4294967296 := by omega
      rw [hg1] at HR2
      clear hg1
      go_wp2_with fail
      go_roundw
      case rel =>
       refine ⟨k, cu.set (k + (p + 2)) xn, qs.set k g1, by omega, by go_num, HU9.out.far (by simp; omega) _, HV9.out.far (by simp; omega) _, ?_, ?_, HR1, ?_⟩
       ·have := HQ9.out.put (j := k) (by omega) hg1b
        rw [Nat.zero_add] at this
        exact this
       ·unfold Hid
        rw [set_drop (by rw [HQ9.out.1]; omega)]
        exact long_keep HR2.out (by rw [← Nat.pow_succ]; exact HE.out)
       ·exact Below.setCell hb9 (by simp; omega) _
      case measure => simp [intOf]
end Go.Proofs.YtjinpfnefeiooaaGreat
