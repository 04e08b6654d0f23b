/- A part of the proof. -/
import Derived.Test.YtjinpfnefeiooaaGreatClonX
namespace Go.Proofs.YtjinpfnefeiooaaGreat
open Go.RowKit

theorem natOf_set {xs : List Nat} {j : Nat} (hj : j < xs.length) (v : Nat) : natOf (xs.set j v) + 4294967296 ^ j * xs.getD j 0 = natOf xs + 4294967296 ^ j * v := by
 have e1 : xs = xs.take j ++ xs.getD j 0 :: xs.drop (j + 1) := by rw [← drop_cons hj, List.take_append_drop]
 have e2 : xs.set j v = xs.take j ++ v :: xs.drop (j + 1) := List.set_eq_take_append_cons_drop.trans (by rw [if_pos hj])
 have hl : (xs.take j).length = j := by rw [List.length_take]; omega
 have n1 : natOf xs = natOf (xs.take j) + 4294967296 ^ j * (xs.getD j 0 + 4294967296 * natOf (xs.drop (j + 1))) := by
  conv => lhs; rw [e1]
  rw [natOf_append, hl]; rfl
 have n2 : natOf (xs.set j v) = natOf (xs.take j) + 4294967296 ^ j * (v + 4294967296 * natOf (xs.drop (j + 1))) := by rw [e2, natOf_append, hl]; rfl
 rw [n1, n2, Nat.mul_add, Nat.mul_add]
 omega
theorem getD_zeros (k j : Nat) : (List.replicate k 0).getD j 0 = 0 := by
 rcases Nat.lt_or_ge j k with h | h
 ·simp [List.getD, h]
 ·simp [List.getD, h]
theorem getD_set_other {xs : List Nat} {j i v : Nat} (h : i ≠ j) : (xs.set j v).getD i 0 = xs.getD i 0 := by
 simp [List.getD, Ne.symm h]
theorem mul_step {P0 Pk : List Nat} {i k x c : Nat} {ys : List Nat} (hk : natOf Pk + 4294967296 ^ (i + k) * c = natOf P0 + 4294967296 ^ i * (x * natOf (ys.take k))) (hj : i + k < Pk.length) :
  natOf (Pk.set (i + k) ((Pk.getD (i + k) 0 + x * ys.getD k 0 + c) % 4294967296)) + 4294967296 ^ (i + k + 1) * ((Pk.getD (i + k) 0 + x * ys.getD k 0 + c) / 4294967296) = natOf P0 + 4294967296 ^ i * (x * natOf (ys.take (k + 1))) := by
 have h1 := natOf_set hj ((Pk.getD (i + k) 0 + x * ys.getD k 0 + c) % 4294967296)
 rw [natOf_take_succ, Nat.mul_add x, Nat.mul_add]
 have e : 4294967296 ^ i * (x * (4294967296 ^ k * ys.getD k 0)) = 4294967296 ^ (i + k) * (x * ys.getD k 0) := by
  rw [Nat.pow_add, ← Nat.mul_assoc x, Nat.mul_comm x, Nat.mul_assoc, Nat.mul_assoc]
 rw [e, Nat.pow_succ, Nat.mul_assoc]
 generalize natOf (Pk.set (i + k) ((Pk.getD (i + k) 0 + x * ys.getD k 0 + c) % 4294967296)) = N1 at *
 generalize Pk.getD (i + k) 0 = p at *
 generalize x * ys.getD k 0 = q at *
 generalize 4294967296 ^ i * (x * natOf (ys.take k)) = T at *
 generalize (4294967296 : Nat) ^ (i + k) = R at *
 have h2 : (p + q + c) % 4294967296 + 4294967296 * ((p + q + c) / 4294967296) = p + q + c := Nat.mod_add_div _ _
 have h3 : R * ((p + q + c) % 4294967296) + R * (4294967296 * ((p + q + c) / 4294967296)) = R * p + R * q + R * c := by rw [← Nat.mul_add, h2, Nat.mul_add, Nat.mul_add]
 omega
theorem words_mul_le {x y : Nat} (hx : x < 4294967296) (hy : y < 4294967296) : x * y ≤ 18446744065119617025 := Nat.le_trans (Nat.mul_le_mul (show x ≤ 4294967295 by omega) (show y ≤ 4294967295 by omega)) (by decide)
theorem make_full (k : Nat) (hk : k ≤ 4294967296) (z : Int) (hz : z = k) (w : World) : (Instr.makeSlice 25 (.int .i64 z) (.int .i64 z)).run Tryz.prog w = .ok (.slice (some ⟨w.heap.size, 0, none⟩) k k) (w.alloc (.cells (madeCells #[.int .u32 0] k) 44)) := by
 subst hz
 obtain ⟨i0, hi, hz0, hz1, hz2⟩ := info_parts info_u32
 have hr := run_make (P := Tryz.prog) w 25 44 i0 _ Tryz.underlying25 hi hz0 .i64 .i64 k k (by omega) (by omega) (by rw [hz2]; omega) (by omega)
 simp only [Int.toNat_natCast, hz1, Nat.mul_one] at hr
 exact hr
theorem own_made (w : World) (B k : Nat) (hB : B ≤ w.heap.size) (hk : k ≤ 4294967296) : (w.alloc (.cells (madeCells #[.int .u32 0] k) 44)).ownsRow B 44 1 (.slice (some ⟨w.heap.size, 0, none⟩) k k) k (u32s (List.replicate k 0)) := by
 have h := World.ownsRow_lit (base := B) (e := 44) (size := 1) w (madeCells #[.int .u32 0] k) k hB (by simp [maxLen]; omega) (by simp [size_madeCells])
 rw [toList_madeCells_one] at h
 simpa [u32s] using h
abbrev OwnW (w : World) (B g n c : Nat) (xs : List Nat) : Prop := w.ownsRow B 44 1 (.slice (some ⟨g, 0, none⟩) n c) n (u32s xs)
theorem OwnW.len {w : World} {B g n c : Nat} {xs : List Nat} (h : OwnW w B g n c xs) : xs.length = n := by have := h.1; simpa [u32s] using this
theorem OwnW.cell {w : World} {B g n c : Nat} {xs : List Nat} (h : OwnW w B g n c xs) {j : Nat} (hj : j < n) : w.cell? ⟨g, j, none⟩ = some (.int .u32 (xs.getD j 0 : Nat)) := by
 rw [h.cellAt j (by omega)]
 have := h.len
 simp [u32s, List.getD, show j < xs.length by omega]
theorem OwnW.frozen {w : World} {B g n c : Nat} {xs : List Nat} (h : OwnW w B g n c xs) (j : Nat) : w.frozen? ⟨g, j, none⟩ = false := h.frozenAt j
theorem OwnW.put {w : World} {B g n c : Nat} {xs : List Nat} (h : OwnW w B g n c xs) (j v : Nat) : OwnW (w.setCell ⟨g, j, none⟩ (.int .u32 (v : Int))) B g n c (xs.set j v) := by
 have := (h.stored j (.int .u32 (v : Int))).1
 show World.ownsRow _ _ _ _ _ _ (List.map _ (xs.set j v))
 rw [List.map_set]
 exact this
theorem OwnW.far {w : World} {B g n c : Nat} {xs : List Nat} (h : OwnW w B g n c xs) {p : Addr} (hp : p.block ≠ g) (v : Value) : OwnW (w.setCell p v) B g n c xs :=
  own_keep h fun k hk => Below.heap_setCell w p v k (by have : g = k := by simpa [Value.ownBlock] using hk
                                                        omega)
theorem OwnW.ext {w w' : World} {B g n c : Nat} {xs : List Nat} (h : OwnW w B g n c xs) (hb : Ext w w') : OwnW w' B g n c xs := own_keep h fun k hk => hb.block k (own_lt h hk).1
theorem OwnW.lt {w : World} {B g n c : Nat} {xs : List Nat} (h : OwnW w B g n c xs) : g < w.heap.size ∧ B ≤ g := own_lt h rfl
theorem boxed_far {W : World} {B : Nat} {t : TypeId} {v : Value} (h : Boxed W B t v) {p : Addr} (hne : B ≠ p.block) (u : Value) : Boxed (W.setCell p u) B t v := (Below.heap_setCell W p u B hne).trans h
set_option maxRecDepth 100000 in
set_option maxHeartbeats 4000000 in
theorem mulWords_any (A : Option Addr) (n c : Nat) (xs : List Nat) (B : Option Addr) (m d : Nat) (ys : List Nat) (w : World) (hx : WordsAt w A n xs) (hy : WordsAt w B m ys) (hn : n ≤ 1073741824) (hm : m ≤ 1073741824) :
  Calls Tryz.prog 125 #[.slice A n c, .slice B m d] w fun e w' => ∃ S, e = .returned (.slice (some ⟨w.heap.size, 0, none⟩) (n + m) (n + m)) ∧ natOf S = natOf xs * natOf ys ∧ NewW w' w.heap.size (some ⟨w.heap.size, 0, none⟩) (n + m) (n + m) S ∧ Ext w w' := by
 have hmk := make_full (n + m) (by omega) ((n : Int) + (m : Int)) (by omega)
 have HO0 := LH (own_made w w.heap.size (n + m) (Nat.le_refl _) (by omega))
 have HX := LH hx
 have HY := LH hy
 have hwx := hx.2.1
 have hwy := hy.2.1
 clear hx hy
 go_enter Tryz.func125, Tryz.ntmps125
 go_wp2_with fail
 go_loopw [6, 7, 8, 9, 10, 19] (fun _ _ _ _ _ i wr => ∃ (k : Nat) (Pl : List Nat), k ≤ n ∧ i = .int .i64 k ∧ Words Pl ∧ Hid (OwnW wr w.heap.size w.heap.size (n + m) (n + m) Pl) ∧ Hid (natOf Pl = natOf (xs.take k) * natOf ys) ∧ Hid (∀ j, k + m ≤ j → Pl.getD j 0 = 0) ∧ Ext w wr) (fun _ _ _ _ _ i _ => n - (intOf i).toNat)
 case atStart => exact ⟨0, _, by omega, rfl, Words.replicate _, HO0, by unfold Hid; rw [natOf_zeros]; simp [natOf], fun j _ => getD_zeros _ j, Ext.al Ext.rfl' _⟩
 case round =>
  obtain ⟨i, P0, hi, rfl, hw0, HO, HV, HZ, hbw⟩ := hrel
  by_cases hlt : i < n
  ·have hbv : decide (i < n) = true := by simp; omega
   obtain ⟨bX, oX, rfl, hbX, hcX⟩ := (HX.out.below hbw).2.2 (by omega)
   have cX := hcX i hlt
   clear hcX
   have HTS := LH (natOf_take_succ xs i)
   have hxi := hwx.getD i
   have h00 : (0 : Int) ≤ (i : Int) := by omega
   have h01 : (i : Int) < (n : Int) := by omega
   generalize xs.getD i 0 = x at *
   go_wp2_with fail
   refine (carrier_any 0 _).mono ?_
   rintro e w1 ⟨rfl, rfl⟩
   have HO1 := LH (HO.out.ext (Ext.al Ext.rfl' (.cells #[.int .u64 ((0 : Nat) : Int)] 97)))
   have hE1 : Ext w (wr.alloc (.cells #[.int .u64 ((0 : Nat) : Int)] 97)) := Ext.al hbw _
   have HC1 := LH (Boxed.new wr 97 (.int .u64 ((0 : Nat) : Int)))
   have hgs : w.heap.size < wr.heap.size := HO.out.lt.1
   generalize hgc : wr.heap.size = gc at *
   generalize wr.alloc (.cells #[.int .u64 ((0 : Nat) : Int)] 97) = wa at *
   clear hgc HO hbw
   go_wp2_with fail
   obtain ⟨wo, hwo⟩ : ∃ wo : World, wo = wa := ⟨_, rfl⟩
   subst hwo
   go_loopw [9, 10, 27] (fun _ _ t wr => ∃ (k : Nat) (Pk : List Nat) (cc : Nat), k ≤ m ∧ t = .int .i64 k ∧ Words Pk ∧ cc < 4294967296 ∧ Hid (OwnW wr w.heap.size w.heap.size (n + m) (n + m) Pk) ∧ Hid (Boxed wr gc 97 (.int .u64 (cc : Int))) ∧ Hid (natOf Pk + 4294967296 ^ (i + k) * cc = natOf P0 + 4294967296 ^ i * (x * natOf (ys.take k))) ∧ Hid (∀ j, i + k ≤ j → Pk.getD j 0 = P0.getD j 0) ∧ Ext w wr) (fun _ _ t _ => m - (intOf t).toNat)
   case atStart => exact ⟨0, P0, 0, by omega, rfl, hw0, by omega, HO1, HC1, by simp [Hid, natOf], fun j _ => rfl, hE1⟩
   case round =>
    obtain ⟨k, Pk, cc, hk, rfl, hwk, hcc, HOk, HCk, HVk, HPk, hbk⟩ := hrel
    have g0 := HCk.out.cell
    have g1 := HCk.out.frozen
    by_cases hlt2 : k < m
    ·have hbv2 : decide (k < m) = true := by simp; omega
     obtain ⟨bY, oY, rfl, hbY, hcY⟩ := (HY.out.below hbk).2.2 (by omega)
     have cY := hcY k hlt2
     clear hcY
     have hyk := hwy.getD k
     have h02 : (0 : Int) ≤ (k : Int) := by omega
     have h03 : (k : Int) < (m : Int) := by omega
     have cP := HOk.out.cell (j := i + k) (by omega)
     have hpk := hwk.getD (i + k)
     have HST := LH (mul_step (P0 := P0) (ys := ys) HVk.out (by rw [HOk.out.len]; omega))
     generalize ys.getD k 0 = y at *
     generalize Pk.getD (i + k) 0 = p at *
     have hq1 := words_mul_le hxi hyk
     obtain ⟨q, hq⟩ : ∃ q, x * y = q := ⟨_, rfl⟩
     rw [hq] at HST hq1
     have hqz : (x : Int) * (y : Int) = (q : Int) := by rw [← hq]; simp
     clear hq
     go_wp2_with fail
     refine (next_any gc (p + q) cc ((p : Int) + (q : Int)) wr (by omega) (by omega) g0 g1).mono ?_
     rintro e w1 ⟨rfl, rfl⟩
     have HOk1 := LH (HOk.out.far (p := ⟨gc, 0, none⟩) (by simp; omega) (.int .u64 (((p + q + cc) / 4294967296 : Nat) : Int)))
     have HCk1 := LH (HCk.out.set (.int .u64 (((p + q + cc) / 4294967296 : Nat) : Int)))
     have hbk1 : Ext w (wr.setCell ⟨gc, 0, none⟩ (.int .u64 (((p + q + cc) / 4294967296 : Nat) : Int))) := Below.setCell hbk (p := ⟨gc, 0, none⟩) (by simp; omega) _
     have hcn : (p + q + cc) / 4294967296 < 4294967296 := by omega
     have hxn : (p + q + cc) % 4294967296 < 4294967296 := by omega
     generalize (p + q + cc) / 4294967296 = cn at *
     generalize (p + q + cc) % 4294967296 = xn at *
     generalize wr.setCell ⟨gc, 0, none⟩ (.int .u64 (cn : Int)) = wb at *
     have e0 := HOk1.out.cell (j := i + k) (by omega)
     have e1 := HOk1.out.frozen (i + k)
     clear g0 g1 cP hqz
     go_wp2_with fail
     go_roundw
     case rel =>
      refine ⟨k + 1, Pk.set (i + k) xn, cn, by omega, by go_num, hwk.set _ hxn, hcn, HOk1.out.put (i + k) xn, boxed_far HCk1.out (p := ⟨w.heap.size, i + k, none⟩) (by simp; omega) _, HST, fun j hj => ?_, Below.setCell hbk1 (p := ⟨w.heap.size, i + k, none⟩) (by simp) _⟩
      rw [getD_set_other (by omega)]
      exact HPk.out j (by omega)
     case measure => simp [intOf]; omega
    ·have hbv2 : decide (k < m) = false := by simp; omega
     obtain rfl : k = m := by omega
     go_wp2_with fail
     refine (next_any gc 0 cc 0 wr rfl (by omega) g0 g1).mono ?_
     rintro e w1 ⟨rfl, rfl⟩
     have HOk1 := LH (HOk.out.far (p := ⟨gc, 0, none⟩) (by simp; omega) (.int .u64 (((0 + cc) / 4294967296 : Nat) : Int)))
     have hbk1 : Ext w (wr.setCell ⟨gc, 0, none⟩ (.int .u64 (((0 + cc) / 4294967296 : Nat) : Int))) := Below.setCell hbk (p := ⟨gc, 0, none⟩) (by simp; omega) _
     have hc0 : (0 + cc) % 4294967296 = cc := by omega
     rw [hc0]
     generalize wr.setCell ⟨gc, 0, none⟩ (.int .u64 (((0 + cc) / 4294967296 : Nat) : Int)) = wb at *
     clear hc0
     have e0 := HOk1.out.cell (j := i + k) (by omega)
     have e1 := HOk1.out.frozen (i + k)
     have HNEW : Hid (natOf (Pk.set (i + k) cc) = natOf (xs.take (i + 1)) * natOf ys) := by
      have h1 := natOf_set (xs := Pk) (j := i + k) (by rw [HOk.out.len]; omega) cc
      rw [HPk.out (i + k) (Nat.le_refl _), HZ.out (i + k) (Nat.le_refl _)] at h1
      have h2 := HVk.out
      rw [List.take_of_length_le (by rw [HY.out.1]; omega), HV.out] at h2
      unfold Hid
      rw [HTS.out, Nat.add_mul, Nat.mul_assoc]
      omega
     clear g0 g1
     go_wp2_with fail
     go_roundw
     case rel =>
      refine ⟨i + 1, Pk.set (i + k) cc, by omega, by go_num, hwk.set _ hcc, HOk1.out.put (i + k) cc, HNEW, fun j hj => ?_, Below.setCell hbk1 (p := ⟨w.heap.size, i + k, none⟩) (by simp) _⟩
      rw [getD_set_other (by omega), HPk.out j (by omega)]
      exact HZ.out j (by omega)
     case measure => simp [intOf]; omega
  ·have hbv : decide (i < n) = false := by simp; omega
   obtain rfl : i = n := by omega
   have HVF : Hid (natOf P0 = natOf xs * natOf ys) := by
    have := HV.out
    rw [List.take_of_length_le (by rw [HX.out.1]; omega)] at this
    exact this
   go_wp2_with fail
   go_ret
   exact ⟨P0, rfl, HVF.out, own_new HO.out hw0 (Nat.le_refl _), hbw⟩
end Go.Proofs.YtjinpfnefeiooaaGreat
