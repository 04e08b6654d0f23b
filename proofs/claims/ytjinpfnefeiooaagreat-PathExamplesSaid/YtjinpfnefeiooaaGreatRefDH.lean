/- A part of the proof. -/
import Derived.Test.YtjinpfnefeiooaaGreatHalfs
import Derived.Test.YtjinpfnefeiooaaGreatMulW
namespace Go.Proofs.YtjinpfnefeiooaaGreat
open Go.RowKit

theorem hOf_dropP : ∀ (xs : List Nat) (k : Nat), hOf (xs.drop k) = xs.getD k 0 + 65536 * hOf (xs.drop (k + 1))
 | [], k => by simp [hOf]
 | x :: xs, 0 => by simp [hOf]
 | x :: xs, k + 1 => by simpa using hOf_dropP xs k
theorem hOf_splitP : ∀ (xs : List Nat) (k : Nat), hOf xs = hOf (xs.take k) + 65536 ^ k * hOf (xs.drop k)
 | xs, 0 => by simp [hOf]
 | xs, k + 1 => by
  rw [hOf_splitP xs k, hOf_take_succ, hOf_dropP xs k, Nat.mul_add, Nat.pow_succ, Nat.mul_assoc]
  omega
theorem hOf_take_lt {xs : List Nat} (h : Halves xs) : ∀ k, hOf (xs.take k) < 65536 ^ k
 | 0 => by simp [hOf]
 | k + 1 => by
  have ih := hOf_take_lt h k
  have hx : xs.getD k 0 < 65536 := by
   by_cases hk : k < xs.length
   ·exact h _ (by simp [List.getD, hk])
   ·simp [List.getD, hk]
  rw [hOf_take_succ, Nat.pow_succ]
  have h1 : 65536 ^ k * xs.getD k 0 ≤ 65536 ^ k * 65535 := Nat.mul_le_mul_left _ (by omega)
  have h2 : 65536 ^ k * 65536 = 65536 ^ k * 65535 + 65536 ^ k := by rw [show (65536 : Nat) = 65535 + 1 from rfl, Nat.mul_add, Nat.mul_one]
  omega
theorem hOf_less {a b : List Nat} (ha : Halves a) {k : Nat} (he : hOf (a.drop (k + 1)) = hOf (b.drop (k + 1))) (hd : a.getD k 0 < b.getD k 0) : hOf a < hOf b := by
 rw [hOf_splitP a (k + 1), hOf_splitP b (k + 1), he, hOf_take_succ, hOf_take_succ]
 have h1 := hOf_take_lt ha k
 have h2 : 65536 ^ k * (a.getD k 0 + 1) ≤ 65536 ^ k * b.getD k 0 := Nat.mul_le_mul_left _ hd
 rw [Nat.mul_add, Nat.mul_one] at h2
 omega
theorem dcarry {P v d c : Nat} (hv : v = d + 65536 * c) : P * d + P * 65536 * c = P * v := by rw [hv, Nat.mul_add, Nat.mul_assoc]
theorem add_step {a b ds : List Nat} {i c : Nat} (hl : ds.length = i) (h : hOf ds + 65536 ^ i * c = hOf (a.take i) + hOf (b.take i)) :
  hOf (ds ++ [(a.getD i 0 + b.getD i 0 + c) % 65536]) + 65536 ^ (i + 1) * ((a.getD i 0 + b.getD i 0 + c) / 65536) = hOf (a.take (i + 1)) + hOf (b.take (i + 1)) := by
 rw [hOf_snoc, hl, hOf_take_succ, hOf_take_succ, Nat.pow_succ]
 have h1 := dcarry (P := 65536 ^ i) (v := a.getD i 0 + b.getD i 0 + c) (d := (a.getD i 0 + b.getD i 0 + c) % 65536) (c := (a.getD i 0 + b.getD i 0 + c) / 65536) (Nat.mod_add_div _ _).symm
 rw [Nat.mul_add, Nat.mul_add] at h1
 omega
theorem times_step {b ds : List Nat} {n i c : Nat} (hl : ds.length = i) (h : hOf ds + 65536 ^ i * c = n * hOf (b.take i)) :
  hOf (ds ++ [(b.getD i 0 * n + c) % 65536]) + 65536 ^ (i + 1) * ((b.getD i 0 * n + c) / 65536) = n * hOf (b.take (i + 1)) := by
 rw [hOf_snoc, hl, hOf_take_succ, Nat.pow_succ, Nat.mul_add]
 have h1 := dcarry (P := 65536 ^ i) (v := b.getD i 0 * n + c) (d := (b.getD i 0 * n + c) % 65536) (c := (b.getD i 0 * n + c) / 65536) (Nat.mod_add_div _ _).symm
 rw [Nat.mul_add] at h1
 have h2 : n * (65536 ^ i * b.getD i 0) = 65536 ^ i * (b.getD i 0 * n) := by rw [Nat.mul_left_comm, Nat.mul_comm n]
 omega
theorem sub_step {a b ds : List Nat} {i l v l' : Nat} (hl : ds.length = i) (h : hOf ds + hOf (b.take i) = hOf (a.take i) + 65536 ^ i * l) (hv : a.getD i 0 + 65536 * l' = b.getD i 0 + l + v) :
  hOf (ds ++ [v]) + hOf (b.take (i + 1)) = hOf (a.take (i + 1)) + 65536 ^ (i + 1) * l' := by
 rw [hOf_snoc, hl, hOf_take_succ, hOf_take_succ, Nat.pow_succ, Nat.mul_assoc]
 have h1 : 65536 ^ i * (a.getD i 0 + 65536 * l') = 65536 ^ i * (b.getD i 0 + l + v) := by rw [hv]
 rw [Nat.mul_add, Nat.mul_add, Nat.mul_add] at h1
 omega
end Go.Proofs.YtjinpfnefeiooaaGreat
namespace Go.Proofs.YtjinpfnefeiooaaGreat
open Go.RowKit

def RetH (w : World) (m : Nat) (e : Ending) (w' : World) : Prop := ∃ A c, e = .returned (.slice A (halfOf m).length c) ∧ HalfAt w' A (halfOf m).length (halfOf m) ∧ (halfOf m).length ≤ c ∧ c ≤ maxLen ∧ Ext w w'
def RetHN (w : World) (m : Nat) (e : Ending) (w' : World) : Prop := ∃ A c, e = .returned (.slice A (halfOf m).length c) ∧ HalfAt w' A (halfOf m).length (halfOf m) ∧ (halfOf m).length ≤ c ∧ c ≤ maxLen ∧ Ext w w' ∧ ∀ ad, A = some ad → w.heap.size ≤ ad.block
theorem ret_i {a b : Int} (h : a = b) : Ending.returned (.int .i64 a) = .returned (.int .i64 b) := by rw [h]
theorem getD_lt {ds : List Nat} (h : Halves ds) (k : Nat) : ds.getD k 0 < 65536 := by
 by_cases hk : k < ds.length
 ·exact h _ (by simp [List.getD, hk])
 ·simp [List.getD, hk]
theorem halves_snoc {ds : List Nat} {x : Nat} (h : Halves ds) (hx : x < 65536) : Halves (ds ++ [x]) := fun y hy => by
 rcases List.mem_append.1 hy with hy | hy
 ·exact h y hy
 ·simp at hy; omega
theorem cmpN_ltP {a b : Nat} (h : a < b) : cmpN a b = -1 := by unfold cmpN; rw [if_pos h]
theorem cmpN_gtP {a b : Nat} (h : b < a) : cmpN a b = 1 := by unfold cmpN; rw [if_neg (by omega), if_pos h]
theorem cmpN_eqP {a b : Nat} (h : a = b) : cmpN a b = 0 := by unfold cmpN; rw [if_neg (by omega), if_neg (by omega)]
theorem drop_end {ds : List Nat} {k : Nat} (h : ds.length ≤ k) : hOf (ds.drop k) = 0 := by rw [List.drop_eq_nil_of_le h]; rfl
set_option maxRecDepth 100000 in
set_option maxHeartbeats 4000000 in
theorem rcmp_any (A : Option Addr) (n c : Nat) (xs : List Nat) (B : Option Addr) (m d : Nat) (ys : List Nat) (w : World) (ha : HalfAt w A n xs) (hb : HalfAt w B m ys) (hn : n ≤ 1073741824) (hm : m ≤ 1073741824) :
  Calls Tryz.prog 121 #[.slice A n c, .slice B m d] w fun e w' => e = .returned (.int .i64 (cmpN (hOf xs) (hOf ys))) ∧ Ext w w' := by
 have HA := LH ha
 have HB := LH hb
 clear ha hb
 by_cases hnm : n < m
 ·go_enter Tryz.func121, Tryz.ntmps121
  have hnm1 : decide ((n : Int) < (m : Int)) = true := by simp; omega
  go_wp2_with fail
  go_loop [5] (fun i => ∃ k : Nat, k ≤ m ∧ i = .int .i64 ((k : Int) - 1) ∧ Hid (hOf (xs.drop k) = hOf (ys.drop k))) (fun i => (intOf i + 1).toNat)
  case atStart => exact ⟨m, by omega, rfl, by unfold Hid; rw [drop_end (by rw [HA.out.1]; omega), drop_end (by rw [HB.out.1]; omega)]⟩
  case round =>
   obtain ⟨k, hk, rfl, HI⟩ := hrel
   cases k with
   | zero =>
    have HE : Hid (cmpN (hOf xs) (hOf ys) = 0) := cmpN_eqP (by simpa using HI.out)
    have hb0 : decide ((0 : Int) ≤ ((0 : Nat) : Int) - 1) = false := by simp
    go_wp2_with fail
    go_ret
    exact ⟨ret_i HE.out.symm, Ext.rfl'⟩
   | succ k =>
    rw [show (((k + 1 : Nat)) : Int) - 1 = (k : Int) by omega]
    have hb0 : decide ((0 : Int) ≤ (k : Int)) = true := by simp
    have HD1 := LH (hOf_dropP xs k)
    have HD2 := LH (hOf_dropP ys k)
    have HL1 := LH (fun h => hOf_less HA.out.2.1 HI.out (k := k) h)
    have HL2 := LH (fun h => hOf_less HB.out.2.1 HI.out.symm (k := k) h)
    have CA := at_any A n c xs k w HA.out (by omega)
    have CB := at_any B m d ys k w HB.out (by omega)
    generalize xs.getD k 0 = x at *
    generalize ys.getD k 0 = y at *
    have KA := LH CA
    have KB := LH CB
    clear CA CB
    by_cases h1 : x < y
    ·have hc1 : decide ((x : Int) < (y : Int)) = true := by simp; omega
     have hc2 : decide (x < y) = true := by simp; omega
     have HE : Hid (cmpN (hOf xs) (hOf ys) = -1) := cmpN_ltP (HL1.out h1)
     go_wp2_with fail
     refine KA.out.mono ?_
     rintro e w1 ⟨rfl, rfl⟩
     go_wp2_with fail
     refine KB.out.mono ?_
     rintro e w1 ⟨rfl, rfl⟩
     go_wp2_with fail
     go_ret
     exact ⟨ret_i HE.out.symm, Ext.rfl'⟩
    have hc1 : decide ((x : Int) < (y : Int)) = false := by simp; omega
    have hc2 : decide (x < y) = false := by simp; omega
    by_cases h2 : y < x
    ·have hc3 : decide ((y : Int) < (x : Int)) = true := by simp; omega
     have hc4 : decide (y < x) = true := by simp; omega
     have HE : Hid (cmpN (hOf xs) (hOf ys) = 1) := cmpN_gtP (HL2.out h2)
     go_wp2_with fail
     refine KA.out.mono ?_
     rintro e w1 ⟨rfl, rfl⟩
     go_wp2_with fail
     refine KB.out.mono ?_
     rintro e w1 ⟨rfl, rfl⟩
     go_wp2_with fail
     refine KA.out.mono ?_
     rintro e w1 ⟨rfl, rfl⟩
     go_wp2_with fail
     refine KB.out.mono ?_
     rintro e w1 ⟨rfl, rfl⟩
     go_wp2_with fail
     go_ret
     exact ⟨ret_i HE.out.symm, Ext.rfl'⟩
    ·have hc3 : decide ((y : Int) < (x : Int)) = false := by simp; omega
     have hc4 : decide (y < x) = false := by simp; omega
     have HN : Hid (hOf (xs.drop k) = hOf (ys.drop k)) := by
      unfold Hid
      rw [HD1.out, HD2.out, HI.out]
      omega
     go_wp2_with fail
     refine KA.out.mono ?_
     rintro e w1 ⟨rfl, rfl⟩
     go_wp2_with fail
     refine KB.out.mono ?_
     rintro e w1 ⟨rfl, rfl⟩
     go_wp2_with fail
     refine KA.out.mono ?_
     rintro e w1 ⟨rfl, rfl⟩
     go_wp2_with fail
     refine KB.out.mono ?_
     rintro e w1 ⟨rfl, rfl⟩
     go_wp2_with fail
     go_round
     case rel => exact ⟨k, by omega, by go_num, HN.out⟩
     case measure => simp [intOf]
 ·go_enter Tryz.func121, Tryz.ntmps121
  have hnm1 : decide ((n : Int) < (m : Int)) = false := by simp; omega
  go_wp2_with fail
  go_loop [5] (fun i => ∃ k : Nat, k ≤ n ∧ i = .int .i64 ((k : Int) - 1) ∧ Hid (hOf (xs.drop k) = hOf (ys.drop k))) (fun i => (intOf i + 1).toNat)
  case atStart => exact ⟨n, by omega, rfl, by unfold Hid; rw [drop_end (by rw [HA.out.1]; omega), drop_end (by rw [HB.out.1]; omega)]⟩
  case round =>
   obtain ⟨k, hk, rfl, HI⟩ := hrel
   cases k with
   | zero =>
    have HE : Hid (cmpN (hOf xs) (hOf ys) = 0) := cmpN_eqP (by simpa using HI.out)
    have hb0 : decide ((0 : Int) ≤ ((0 : Nat) : Int) - 1) = false := by simp
    go_wp2_with fail
    go_ret
    exact ⟨ret_i HE.out.symm, Ext.rfl'⟩
   | succ k =>
    rw [show (((k + 1 : Nat)) : Int) - 1 = (k : Int) by omega]
    have hb0 : decide ((0 : Int) ≤ (k : Int)) = true := by simp
    have HD1 := LH (hOf_dropP xs k)
    have HD2 := LH (hOf_dropP ys k)
    have HL1 := LH (fun h => hOf_less HA.out.2.1 HI.out (k := k) h)
    have HL2 := LH (fun h => hOf_less HB.out.2.1 HI.out.symm (k := k) h)
    have CA := at_any A n c xs k w HA.out (by omega)
    have CB := at_any B m d ys k w HB.out (by omega)
    generalize xs.getD k 0 = x at *
    generalize ys.getD k 0 = y at *
    have KA := LH CA
    have KB := LH CB
    clear CA CB
    by_cases h1 : x < y
    ·have hc1 : decide ((x : Int) < (y : Int)) = true := by simp; omega
     have hc2 : decide (x < y) = true := by simp; omega
     have HE : Hid (cmpN (hOf xs) (hOf ys) = -1) := cmpN_ltP (HL1.out h1)
     go_wp2_with fail
     refine KA.out.mono ?_
     rintro e w1 ⟨rfl, rfl⟩
     go_wp2_with fail
     refine KB.out.mono ?_
     rintro e w1 ⟨rfl, rfl⟩
     go_wp2_with fail
     go_ret
     exact ⟨ret_i HE.out.symm, Ext.rfl'⟩
    have hc1 : decide ((x : Int) < (y : Int)) = false := by simp; omega
    have hc2 : decide (x < y) = false := by simp; omega
    by_cases h2 : y < x
    ·have hc3 : decide ((y : Int) < (x : Int)) = true := by simp; omega
     have hc4 : decide (y < x) = true := by simp; omega
     have HE : Hid (cmpN (hOf xs) (hOf ys) = 1) := cmpN_gtP (HL2.out h2)
     go_wp2_with fail
     refine KA.out.mono ?_
     rintro e w1 ⟨rfl, rfl⟩
     go_wp2_with fail
     refine KB.out.mono ?_
     rintro e w1 ⟨rfl, rfl⟩
     go_wp2_with fail
     refine KA.out.mono ?_
     rintro e w1 ⟨rfl, rfl⟩
     go_wp2_with fail
     refine KB.out.mono ?_
     rintro e w1 ⟨rfl, rfl⟩
     go_wp2_with fail
     go_ret
     exact ⟨ret_i HE.out.symm, Ext.rfl'⟩
    ·have hc3 : decide ((y : Int) < (x : Int)) = false := by simp; omega
     have hc4 : decide (y < x) = false := by simp; omega
     have HN : Hid (hOf (xs.drop k) = hOf (ys.drop k)) := by
      unfold Hid
      rw [HD1.out, HD2.out, HI.out]
      omega
     go_wp2_with fail
     refine KA.out.mono ?_
     rintro e w1 ⟨rfl, rfl⟩
     go_wp2_with fail
     refine KB.out.mono ?_
     rintro e w1 ⟨rfl, rfl⟩
     go_wp2_with fail
     refine KA.out.mono ?_
     rintro e w1 ⟨rfl, rfl⟩
     go_wp2_with fail
     refine KB.out.mono ?_
     rintro e w1 ⟨rfl, rfl⟩
     go_wp2_with fail
     go_round
     case rel => exact ⟨k, by omega, by go_num, HN.out⟩
     case measure => simp [intOf]
set_option maxRecDepth 100000 in
set_option maxHeartbeats 8000000 in
theorem radd_any (A : Option Addr) (n c : Nat) (xs : List Nat) (B : Option Addr) (m d : Nat) (ys : List Nat) (w : World) (ha : HalfAt w A n xs) (hb : HalfAt w B m ys) (hn : n ≤ 1073741824) (hm : m ≤ 1073741824) :
  Calls Tryz.prog 120 #[.slice A n c, .slice B m d] w (RetH w (hOf xs + hOf ys)) := by
 have HA := LH ha
 have HB := LH hb
 clear ha hb
 obtain ⟨i0, hi, hz0, hz1, hz2⟩ := info_parts info_int
 have HI0 := LH (And.intro hi (And.intro hz0 (And.intro hz1 hz2)))
 clear hi hz0 hz1 hz2
 obtain ⟨M, hM1, hM2, hM3⟩ : ∃ M, n ≤ M ∧ m ≤ M ∧ M ≤ 1073741824 := ⟨max n m, by omega, by omega, by omega⟩
 go_enter Tryz.func120, Tryz.ntmps120
 go_wp2_with fail
 go_loopw [5, 6, 7] (fun v cr i wr => ∃ (k cy : Nat) (ds : List Nat), k ≤ M + 1 ∧ (k = M + 1 → cy = 0) ∧ cy ≤ 1 ∧ cr = .int .i64 cy ∧ i = .int .i64 k ∧ Hid (ds.length = k ∧ Halves ds ∧ hOf ds + 65536 ^ k * cy = hOf (xs.take k) + hOf (ys.take k)) ∧ Hid (Ext w wr ∧ wr.ownsRow w.heap.size 3 1 v k (i64s ds))) (fun _ _ i _ => M + 2 - (intOf i).toNat)
 case atStart => exact ⟨0, 0, [], by omega, fun _ => rfl, by omega, rfl, rfl, ⟨rfl, Halves.nil, by simp [hOf]⟩, Ext.rfl', own_nil _ _ _ _⟩
 case round =>
  obtain ⟨k, cy, ds, hk, hk2, hcy, rfl, rfl, HD, HI⟩ := hrel
  have HE := LH HI.out.1
  have HO := LH HI.out.2
  clear HI
  by_cases hgo : k < n ∨ k < m ∨ 0 < cy
  ·have hkM : k ≤ M := by
    rcases hgo with h | h | h
    ·omega
    ·omega
    ·exact Nat.le_of_lt_succ (Nat.lt_of_le_of_ne hk (fun e => by have := hk2 e; omega))
   have HK : Hid (k = M → xs.getD k 0 = 0 ∧ ys.getD k 0 = 0) := fun e => by
    have h1 := HA.out.1
    have h2 := HB.out.1
    exact ⟨by simp [List.getD, show ¬ k < xs.length by omega], by simp [List.getD, show ¬ k < ys.length by omega]⟩
   have HS := LH (add_step HD.out.1 HD.out.2.2)
   have hx := getD_lt HA.out.2.1 k
   have hy := getD_lt HB.out.2.1 k
   have CA := at_any A n c xs k wr (HA.out.below HE.out) (by omega)
   have CB := at_any B m d ys k wr (HB.out.below HE.out) (by omega)
   generalize xs.getD k 0 = x at *
   generalize ys.getD k 0 = y at *
   have KA := LH CA
   have KB := LH CB
   clear CA CB
   obtain ⟨v, hv⟩ : ∃ v, x + y + cy = v := ⟨_, rfl⟩
   obtain ⟨dv, hdv⟩ : ∃ u, v % 65536 = u := ⟨_, rfl⟩
   obtain ⟨cv, hcv⟩ : ∃ u, v / 65536 = u := ⟨_, rfl⟩
   have hvi : (x : Int) + (y : Int) + (cy : Int) = (v : Int) := by omega
   have hdi : (v : Int) % 65536 = (dv : Int) := by omega
   have hci : (v : Int) / 65536 = (cv : Int) := by omega
   have hv2 : v ≤ 131071 := by omega
   have hcv1 : cv ≤ 1 := by omega
   have HCV : Hid (k + 1 = M + 1 → cv = 0) := fun e => by
    have := HK.out (by omega)
    omega
   rw [hv, hdv, hcv] at HS
   have hdl : dv < 65536 := by omega
   have HD2 : Hid ((ds ++ [dv]).length = k + 1 ∧ Halves (ds ++ [dv]) ∧ hOf (ds ++ [dv]) + 65536 ^ (k + 1) * cv = hOf (xs.take (k + 1)) + hOf (ys.take (k + 1))) := ⟨by simp [HD.out.1], halves_snoc HD.out.2.1 hdl, HS.out⟩
   clear hv hdv hcv HK HS hk2
   have hEa : Ext wr (wr.alloc (.cells #[.int .i64 (dv : Int)] 3)) := Ext.al Ext.rfl' _
   have HE3 := LH (ET HE.out hEa)
   have HO3 := LH (own_keep (w' := wr.alloc (.cells #[.int .i64 (dv : Int)] 3)) HO.out (fun g hg => Below.heap_alloc wr _ g (own_lt HO.out hg).1))
   have HNW := LH (World.news_of_block (cs := #[.int .i64 (dv : Int)]) (t := 3) (fr := (0, 0)) (heap_alloc_new wr (.cells #[.int .i64 (dv : Int)] 3)))
   have hws : w.heap.size ≤ (wr.alloc (.cells #[.int .i64 (dv : Int)] 3)).heap.size := HE3.out.size
   clear hEa
   by_cases h1 : k < n
   ·have hb1 : decide ((k : Int) < (n : Int)) = true := by simp; omega
    have hb2 : decide (k < n) = true := by simp; omega
    go_wp2_with fail
    refine KA.out.mono ?_
    rintro e w1 ⟨rfl, rfl⟩
    go_wp2_with fail
    refine KB.out.mono ?_
    rintro e w1 ⟨rfl, rfl⟩
    go_wp2_with (at_builtin; refine wpList_append_atW _ rfl (.tmp 34) (.tmp 37) 120 rfl w.heap.size 3 i0 _ 1 8 Tryz.underlying120 HI0.out.1 HI0.out.2.1 HI0.out.2.2.1 HI0.out.2.2.2 rfl (by omega) u5 k _ rfl HO3.out ⟨wr.heap.size, 0, none⟩ 1 1 [.int .i64 (dv : Int)] rfl rfl HNW.out (by simp [Value.oneCell']) (.inr (by omega)) (by simp [maxLen]; omega) (by omega) hws ?_; intro g cap w4 hown hgr hgg)
    have HO4 : Hid (Ext w w4 ∧ w4.ownsRow w.heap.size 3 1 (.slice (some ⟨g, 0, none⟩) (k + 1) cap) (k + 1) (i64s (ds ++ [dv]))) := by
     refine ⟨ext_grownW HE3.out hgr (fun g hg => (own_lt HO3.out hg).2), ?_⟩
     rw [i64s_append]
     exact hown
    clear hown hgr hgg
    go_roundw
    case rel => exact ⟨k + 1, cv, ds ++ [dv], by omega, HCV.out, hcv1, rfl, by go_num, HD2.out, HO4.out⟩
    case measure => simp [intOf]; omega
   have hb1 : decide ((k : Int) < (n : Int)) = false := by simp; omega
   have hb2 : decide (k < n) = false := by simp; omega
   by_cases h2 : k < m
   ·have hb3 : decide ((k : Int) < (m : Int)) = true := by simp; omega
    have hb4 : decide (k < m) = true := by simp; omega
    go_wp2_with fail
    refine KA.out.mono ?_
    rintro e w1 ⟨rfl, rfl⟩
    go_wp2_with fail
    refine KB.out.mono ?_
    rintro e w1 ⟨rfl, rfl⟩
    go_wp2_with (at_builtin; refine wpList_append_atW _ rfl (.tmp 34) (.tmp 37) 120 rfl w.heap.size 3 i0 _ 1 8 Tryz.underlying120 HI0.out.1 HI0.out.2.1 HI0.out.2.2.1 HI0.out.2.2.2 rfl (by omega) u5 k _ rfl HO3.out ⟨wr.heap.size, 0, none⟩ 1 1 [.int .i64 (dv : Int)] rfl rfl HNW.out (by simp [Value.oneCell']) (.inr (by omega)) (by simp [maxLen]; omega) (by omega) hws ?_; intro g cap w4 hown hgr hgg)
    have HO4 : Hid (Ext w w4 ∧ w4.ownsRow w.heap.size 3 1 (.slice (some ⟨g, 0, none⟩) (k + 1) cap) (k + 1) (i64s (ds ++ [dv]))) := by
     refine ⟨ext_grownW HE3.out hgr (fun g hg => (own_lt HO3.out hg).2), ?_⟩
     rw [i64s_append]
     exact hown
    clear hown hgr hgg
    go_roundw
    case rel => exact ⟨k + 1, cv, ds ++ [dv], by omega, HCV.out, hcv1, rfl, by go_num, HD2.out, HO4.out⟩
    case measure => simp [intOf]; omega
   have hb3 : decide ((k : Int) < (m : Int)) = false := by simp; omega
   have hb4 : decide (k < m) = false := by simp; omega
   have hb5 : decide ((0 : Int) < (cy : Int)) = true := by simp; omega
   have hb6 : decide (0 < cy) = true := by simp; omega
   go_wp2_with fail
   refine KA.out.mono ?_
   rintro e w1 ⟨rfl, rfl⟩
   go_wp2_with fail
   refine KB.out.mono ?_
   rintro e w1 ⟨rfl, rfl⟩
   go_wp2_with (at_builtin; refine wpList_append_atW _ rfl (.tmp 34) (.tmp 37) 120 rfl w.heap.size 3 i0 _ 1 8 Tryz.underlying120 HI0.out.1 HI0.out.2.1 HI0.out.2.2.1 HI0.out.2.2.2 rfl (by omega) u5 k _ rfl HO3.out ⟨wr.heap.size, 0, none⟩ 1 1 [.int .i64 (dv : Int)] rfl rfl HNW.out (by simp [Value.oneCell']) (.inr (by omega)) (by simp [maxLen]; omega) (by omega) hws ?_; intro g cap w4 hown hgr hgg)
   have HO4 : Hid (Ext w w4 ∧ w4.ownsRow w.heap.size 3 1 (.slice (some ⟨g, 0, none⟩) (k + 1) cap) (k + 1) (i64s (ds ++ [dv]))) := by
    refine ⟨ext_grownW HE3.out hgr (fun g hg => (own_lt HO3.out hg).2), ?_⟩
    rw [i64s_append]
    exact hown
   clear hown hgr hgg
   go_roundw
   case rel => exact ⟨k + 1, cv, ds ++ [dv], by omega, HCV.out, hcv1, rfl, by go_num, HD2.out, HO4.out⟩
   case measure => simp [intOf]; omega
  ·have hb1 : decide ((k : Int) < (n : Int)) = false := by simp; omega
   have hb2 : decide (k < n) = false := by simp; omega
   have hb3 : decide ((k : Int) < (m : Int)) = false := by simp; omega
   have hb4 : decide (k < m) = false := by simp; omega
   have hc0 : cy = 0 := by omega
   subst hc0
   obtain ⟨A', c', rfl, h1, h2, h3⟩ := own_half HO.out HD.out.2.1
   have HV : Hid (hOf ds = hOf xs + hOf ys) := by
    have h := HD.out.2.2
    rw [Nat.mul_zero, Nat.add_zero, List.take_of_length_le (by rw [HA.out.1]; omega), List.take_of_length_le (by rw [HB.out.1]; omega)] at h
    exact h
   have HH := LH h3
   clear h3
   go_wp2_with fail
   refine (rtrim_any A' k c' ds wr HH.out h1 h2).mono ?_
   rintro e w1 ⟨rfl, rfl⟩
   have HT := LH HH.out.trim
   have hl := half_len_ge HH.out.2.1
   rw [HH.out.1] at hl
   rw [HV.out] at HT hl ⊢
   go_wp2_with fail
   go_ret
   exact ⟨_, _, rfl, HT.out, by omega, h2, HE.out⟩
set_option maxRecDepth 100000 in
set_option maxHeartbeats 8000000 in
theorem rtimes_any (A : Option Addr) (n c : Nat) (xs : List Nat) (N : Nat) (w : World) (ha : HalfAt w A n xs) (hn : n ≤ 1073741824) (hN : N ≤ 65535) :
  Calls Tryz.prog 138 #[.slice A n c, .int .i64 (N : Int)] w (RetH w (N * hOf xs)) := by
 have HA := LH ha
 clear ha
 obtain ⟨i0, hi, hz0, hz1, hz2⟩ := info_parts info_int
 have HI0 := LH (And.intro hi (And.intro hz0 (And.intro hz1 hz2)))
 clear hi hz0 hz1 hz2
 go_enter Tryz.func138, Tryz.ntmps138
 go_wp2_with fail
 go_loopw [5, 6, 7] (fun v cr i wr => ∃ (k cy : Nat) (ds : List Nat), k ≤ n + 1 ∧ (k = n + 1 → cy = 0) ∧ cy ≤ 65535 ∧ cr = .int .i64 cy ∧ i = .int .i64 k ∧ Hid (ds.length = k ∧ Halves ds ∧ hOf ds + 65536 ^ k * cy = N * hOf (xs.take k)) ∧ Hid (Ext w wr ∧ wr.ownsRow w.heap.size 3 1 v k (i64s ds))) (fun _ _ i _ => n + 2 - (intOf i).toNat)
 case atStart => exact ⟨0, 0, [], by omega, fun _ => rfl, by omega, rfl, rfl, ⟨rfl, Halves.nil, by simp [hOf]⟩, Ext.rfl', own_nil _ _ _ _⟩
 case round =>
  obtain ⟨k, cy, ds, hk, hk2, hcy, rfl, rfl, HD, HI⟩ := hrel
  have HE := LH HI.out.1
  have HO := LH HI.out.2
  clear HI
  by_cases hgo : k < n ∨ 0 < cy
  ·have hkM : k ≤ n := by
    rcases hgo with h | h
    ·omega
    ·exact Nat.le_of_lt_succ (Nat.lt_of_le_of_ne hk (fun e => by have := hk2 e; omega))
   have HK : Hid (k = n → xs.getD k 0 = 0) := fun e => by
    have h1 := HA.out.1
    simp [List.getD, show ¬ k < xs.length by omega]
   have HS := LH (times_step HD.out.1 HD.out.2.2)
   have hx := getD_lt HA.out.2.1 k
   have CA := at_any A n c xs k wr (HA.out.below HE.out) (by omega)
   generalize xs.getD k 0 = x at *
   have KA := LH CA
   clear CA
   obtain ⟨pv, hpv⟩ : ∃ v, x * N = v := ⟨_, rfl⟩
   have hpl : pv ≤ 65535 * 65535 := by rw [← hpv]; exact Nat.mul_le_mul (by omega) hN
   obtain ⟨v, hv⟩ : ∃ v, pv + cy = v := ⟨_, rfl⟩
   obtain ⟨dv, hdv⟩ : ∃ u, v % 65536 = u := ⟨_, rfl⟩
   obtain ⟨cv, hcv⟩ : ∃ u, v / 65536 = u := ⟨_, rfl⟩
   have hpi : (x : Int) * (N : Int) = (pv : Int) := by rw [← hpv]; simp
   have hvi : (pv : Int) + (cy : Int) = (v : Int) := by omega
   have hdi : (v : Int) % 65536 = (dv : Int) := by omega
   have hci : (v : Int) / 65536 = (cv : Int) := by omega
   have hcv1 : cv ≤ 65535 := by omega
   have hvb : v ≤ 4294967295 := by omega
   have HCV : Hid (k + 1 = n + 1 → cv = 0) := fun e => by
    have h0 := HK.out (by omega)
    rw [h0, Nat.zero_mul] at hpv
    omega
   rw [hpv, hv, hdv, hcv] at HS
   have hdl : dv < 65536 := by omega
   have HD2 : Hid ((ds ++ [dv]).length = k + 1 ∧ Halves (ds ++ [dv]) ∧ hOf (ds ++ [dv]) + 65536 ^ (k + 1) * cv = N * hOf (xs.take (k + 1))) := ⟨by simp [HD.out.1], halves_snoc HD.out.2.1 hdl, HS.out⟩
   clear hv hdv hcv hpv HK HS hk2
   have hEa : Ext wr (wr.alloc (.cells #[.int .i64 (dv : Int)] 3)) := Ext.al Ext.rfl' _
   have HE3 := LH (ET HE.out hEa)
   have HO3 := LH (own_keep (w' := wr.alloc (.cells #[.int .i64 (dv : Int)] 3)) HO.out (fun g hg => Below.heap_alloc wr _ g (own_lt HO.out hg).1))
   have HNW := LH (World.news_of_block (cs := #[.int .i64 (dv : Int)]) (t := 3) (fr := (0, 0)) (heap_alloc_new wr (.cells #[.int .i64 (dv : Int)] 3)))
   have hws : w.heap.size ≤ (wr.alloc (.cells #[.int .i64 (dv : Int)] 3)).heap.size := HE3.out.size
   clear hEa
   by_cases h1 : k < n
   ·have hb1 : decide ((k : Int) < (n : Int)) = true := by simp; omega
    have hb2 : decide (k < n) = true := by simp; omega
    go_wp2_with fail
    refine KA.out.mono ?_
    rintro e w1 ⟨rfl, rfl⟩
    go_wp2_with (at_builtin; refine wpList_append_atW _ rfl (.tmp 26) (.tmp 29) 120 rfl w.heap.size 3 i0 _ 1 8 Tryz.underlying120 HI0.out.1 HI0.out.2.1 HI0.out.2.2.1 HI0.out.2.2.2 rfl (by omega) u5 k _ rfl HO3.out ⟨wr.heap.size, 0, none⟩ 1 1 [.int .i64 (dv : Int)] rfl rfl HNW.out (by simp [Value.oneCell']) (.inr (by omega)) (by simp [maxLen]; omega) (by omega) hws ?_; intro g cap w4 hown hgr hgg)
    have HO4 : Hid (Ext w w4 ∧ w4.ownsRow w.heap.size 3 1 (.slice (some ⟨g, 0, none⟩) (k + 1) cap) (k + 1) (i64s (ds ++ [dv]))) := by
     refine ⟨ext_grownW HE3.out hgr (fun g hg => (own_lt HO3.out hg).2), ?_⟩
     rw [i64s_append]
     exact hown
    clear hown hgr hgg
    go_roundw
    case rel => exact ⟨k + 1, cv, ds ++ [dv], by omega, HCV.out, hcv1, rfl, by go_num, HD2.out, HO4.out⟩
    case measure => simp [intOf]; omega
   have hb1 : decide ((k : Int) < (n : Int)) = false := by simp; omega
   have hb2 : decide (k < n) = false := by simp; omega
   have hb5 : decide ((0 : Int) < (cy : Int)) = true := by simp; omega
   have hb6 : decide (0 < cy) = true := by simp; omega
   go_wp2_with fail
   refine KA.out.mono ?_
   rintro e w1 ⟨rfl, rfl⟩
   go_wp2_with (at_builtin; refine wpList_append_atW _ rfl (.tmp 26) (.tmp 29) 120 rfl w.heap.size 3 i0 _ 1 8 Tryz.underlying120 HI0.out.1 HI0.out.2.1 HI0.out.2.2.1 HI0.out.2.2.2 rfl (by omega) u5 k _ rfl HO3.out ⟨wr.heap.size, 0, none⟩ 1 1 [.int .i64 (dv : Int)] rfl rfl HNW.out (by simp [Value.oneCell']) (.inr (by omega)) (by simp [maxLen]; omega) (by omega) hws ?_; intro g cap w4 hown hgr hgg)
   have HO4 : Hid (Ext w w4 ∧ w4.ownsRow w.heap.size 3 1 (.slice (some ⟨g, 0, none⟩) (k + 1) cap) (k + 1) (i64s (ds ++ [dv]))) := by
    refine ⟨ext_grownW HE3.out hgr (fun g hg => (own_lt HO3.out hg).2), ?_⟩
    rw [i64s_append]
    exact hown
   clear hown hgr hgg
   go_roundw
   case rel => exact ⟨k + 1, cv, ds ++ [dv], by omega, HCV.out, hcv1, rfl, by go_num, HD2.out, HO4.out⟩
   case measure => simp [intOf]; omega
  ·have hb1 : decide ((k : Int) < (n : Int)) = false := by simp; omega
   have hb2 : decide (k < n) = false := by simp; omega
   have hc0 : cy = 0 := by omega
   subst hc0
   obtain ⟨A', c', rfl, h1, h2, h3⟩ := own_half HO.out HD.out.2.1
   have HV : Hid (hOf ds = N * hOf xs) := by
    have h := HD.out.2.2
    rw [Nat.mul_zero, Nat.add_zero, List.take_of_length_le (by rw [HA.out.1]; omega)] at h
    exact h
   have HH := LH h3
   clear h3
   go_wp2_with fail
   refine (rtrim_any A' k c' ds wr HH.out h1 h2).mono ?_
   rintro e w1 ⟨rfl, rfl⟩
   have HT := LH HH.out.trim
   have hl := half_len_ge HH.out.2.1
   rw [HH.out.1] at hl
   rw [HV.out] at HT hl ⊢
   go_wp2_with fail
   go_ret
   exact ⟨_, _, rfl, HT.out, by omega, h2, HE.out⟩
theorem sub_end {xs ys ds : List Nat} {n l : Nat} (hx : Halves xs) (hxl : xs.length = n) (hds : Halves ds) (hdl : ds.length = n) (hl : l ≤ 1) (hle : hOf ys ≤ hOf xs) (h : hOf ds + hOf (ys.take n) = hOf (xs.take n) + 65536 ^ n * l) : hOf ds = hOf xs - hOf ys := by
 have h1 := hOf_lt hx
 rw [hxl] at h1
 have h2 := hOf_lt hds
 rw [hdl] at h2
 have h3 := hOf_splitP ys n
 rw [show xs.take n = xs from List.take_of_length_le (by omega)] at h
 have h4 : hOf (ys.drop n) = 0 := by
  by_cases e : hOf (ys.drop n) = 0
  ·exact e
  ·exfalso
   have : 65536 ^ n * 1 ≤ 65536 ^ n * hOf (ys.drop n) := Nat.mul_le_mul_left _ (by omega)
   omega
 rw [h4, Nat.mul_zero, Nat.add_zero] at h3
 have h5 : l = 0 ∨ l = 1 := by omega
 rcases h5 with rfl | rfl
 ·rw [Nat.mul_zero] at h; omega
 ·rw [Nat.mul_one] at h; omega
set_option maxRecDepth 100000 in
set_option maxHeartbeats 8000000 in
theorem rsub_new (A : Option Addr) (n c : Nat) (xs : List Nat) (B : Option Addr) (m d : Nat) (ys : List Nat) (w : World) (ha : HalfAt w A n xs) (hb : HalfAt w B m ys) (hn : n ≤ 1073741824) (_hm : m ≤ 1073741824) (hle : hOf ys ≤ hOf xs) :
  Calls Tryz.prog 122 #[.slice A n c, .slice B m d] w (RetHN w (hOf xs - hOf ys)) := by
 have HA := LH ha
 have HB := LH hb
 have HLE := LH hle
 clear ha hb hle
 obtain ⟨i0, hi, hz0, hz1, hz2⟩ := info_parts info_int
 have HI0 := LH (And.intro hi (And.intro hz0 (And.intro hz1 hz2)))
 clear hi hz0 hz1 hz2
 go_enter Tryz.func122, Tryz.ntmps122
 go_wp2_with fail
 go_loopw [5, 6, 7] (fun v cr i wr => ∃ (k cy : Nat) (ds : List Nat), k ≤ n ∧ cy ≤ 1 ∧ cr = .int .i64 cy ∧ i = .int .i64 k ∧ Hid (ds.length = k ∧ Halves ds ∧ hOf ds + hOf (ys.take k) = hOf (xs.take k) + 65536 ^ k * cy) ∧ Hid (Ext w wr ∧ wr.ownsRow w.heap.size 3 1 v k (i64s ds))) (fun _ _ i _ => n - (intOf i).toNat)
 case atStart => exact ⟨0, 0, [], by omega, by omega, rfl, rfl, ⟨rfl, Halves.nil, by simp [hOf]⟩, Ext.rfl', own_nil _ _ _ _⟩
 case round =>
  obtain ⟨k, cy, ds, hk, hcy, rfl, rfl, HD, HI⟩ := hrel
  have HE := LH HI.out.1
  have HO := LH HI.out.2
  clear HI
  by_cases hgo : k < n
  ·have hb1 : decide ((k : Int) < (n : Int)) = true := by simp; omega
   have hb2 : decide (k < n) = true := by simp; omega
   have HS := LH (fun v l' => sub_step (a := xs) (b := ys) (v := v) (l' := l') HD.out.1 HD.out.2.2)
   have hx := getD_lt HA.out.2.1 k
   have hy := getD_lt HB.out.2.1 k
   have CA := at_any A n c xs k wr (HA.out.below HE.out) (by omega)
   have CB := at_any B m d ys k wr (HB.out.below HE.out) (by omega)
   generalize xs.getD k 0 = x at *
   generalize ys.getD k 0 = y at *
   have KA := LH CA
   have KB := LH CB
   clear CA CB
   by_cases hneg : x < y + cy
   ·obtain ⟨dv, hdv⟩ : ∃ u, x + 65536 - y - cy = u := ⟨_, rfl⟩
    have hd1 : (x : Int) - (y : Int) - (cy : Int) + 65536 = (dv : Int) := by omega
    have hdl : dv < 65536 := by omega
    have hng : decide ((x : Int) - (y : Int) - (cy : Int) < 0) = true := by simp; omega
    have HD2 : Hid ((ds ++ [dv]).length = k + 1 ∧ Halves (ds ++ [dv]) ∧ hOf (ds ++ [dv]) + hOf (ys.take (k + 1)) = hOf (xs.take (k + 1)) + 65536 ^ (k + 1) * 1) := ⟨by simp [HD.out.1], halves_snoc HD.out.2.1 hdl, HS.out dv 1 (by omega)⟩
    clear hdv HS
    have hEa : Ext wr (wr.alloc (.cells #[.int .i64 (dv : Int)] 3)) := Ext.al Ext.rfl' _
    have HE3 := LH (ET HE.out hEa)
    have HO3 := LH (own_keep (w' := wr.alloc (.cells #[.int .i64 (dv : Int)] 3)) HO.out (fun g hg => Below.heap_alloc wr _ g (own_lt HO.out hg).1))
    have HNW := LH (World.news_of_block (cs := #[.int .i64 (dv : Int)]) (t := 3) (fr := (0, 0)) (heap_alloc_new wr (.cells #[.int .i64 (dv : Int)] 3)))
    have hws : w.heap.size ≤ (wr.alloc (.cells #[.int .i64 (dv : Int)] 3)).heap.size := HE3.out.size
    clear hEa
    go_wp2_with fail
    refine KA.out.mono ?_
    rintro e w1 ⟨rfl, rfl⟩
    go_wp2_with fail
    refine KB.out.mono ?_
    rintro e w1 ⟨rfl, rfl⟩
    go_wp2_with (at_builtin; refine wpList_append_atW _ rfl (.tmp 28) (.tmp 30) 120 rfl w.heap.size 3 i0 _ 1 8 Tryz.underlying120 HI0.out.1 HI0.out.2.1 HI0.out.2.2.1 HI0.out.2.2.2 rfl (by omega) u5 k _ rfl HO3.out ⟨wr.heap.size, 0, none⟩ 1 1 [.int .i64 (dv : Int)] rfl rfl HNW.out (by simp [Value.oneCell']) (.inr (by omega)) (by simp [maxLen]; omega) (by omega) hws ?_; intro g cap w4 hown hgr hgg)
    have HO4 : Hid (Ext w w4 ∧ w4.ownsRow w.heap.size 3 1 (.slice (some ⟨g, 0, none⟩) (k + 1) cap) (k + 1) (i64s (ds ++ [dv]))) := by
     refine ⟨ext_grownW HE3.out hgr (fun g hg => (own_lt HO3.out hg).2), ?_⟩
     rw [i64s_append]
     exact hown
    clear hown hgr hgg
    go_roundw
    case rel => exact ⟨k + 1, 1, ds ++ [dv], by omega, by omega, rfl, by go_num, HD2.out, HO4.out⟩
    case measure => simp [intOf]; omega
   ·obtain ⟨dv, hdv⟩ : ∃ u, x - y - cy = u := ⟨_, rfl⟩
    have hd1 : (x : Int) - (y : Int) - (cy : Int) = (dv : Int) := by omega
    have hdl : dv < 65536 := by omega
    have hng : decide ((dv : Int) < 0) = false := by simp
    have HD2 : Hid ((ds ++ [dv]).length = k + 1 ∧ Halves (ds ++ [dv]) ∧ hOf (ds ++ [dv]) + hOf (ys.take (k + 1)) = hOf (xs.take (k + 1)) + 65536 ^ (k + 1) * 0) := ⟨by simp [HD.out.1], halves_snoc HD.out.2.1 hdl, HS.out dv 0 (by omega)⟩
    clear hdv HS
    have hEa : Ext wr (wr.alloc (.cells #[.int .i64 (dv : Int)] 3)) := Ext.al Ext.rfl' _
    have HE3 := LH (ET HE.out hEa)
    have HO3 := LH (own_keep (w' := wr.alloc (.cells #[.int .i64 (dv : Int)] 3)) HO.out (fun g hg => Below.heap_alloc wr _ g (own_lt HO.out hg).1))
    have HNW := LH (World.news_of_block (cs := #[.int .i64 (dv : Int)]) (t := 3) (fr := (0, 0)) (heap_alloc_new wr (.cells #[.int .i64 (dv : Int)] 3)))
    have hws : w.heap.size ≤ (wr.alloc (.cells #[.int .i64 (dv : Int)] 3)).heap.size := HE3.out.size
    clear hEa
    go_wp2_with fail
    refine KA.out.mono ?_
    rintro e w1 ⟨rfl, rfl⟩
    go_wp2_with fail
    refine KB.out.mono ?_
    rintro e w1 ⟨rfl, rfl⟩
    go_wp2_with (at_builtin; refine wpList_append_atW _ rfl (.tmp 28) (.tmp 30) 120 rfl w.heap.size 3 i0 _ 1 8 Tryz.underlying120 HI0.out.1 HI0.out.2.1 HI0.out.2.2.1 HI0.out.2.2.2 rfl (by omega) u5 k _ rfl HO3.out ⟨wr.heap.size, 0, none⟩ 1 1 [.int .i64 (dv : Int)] rfl rfl HNW.out (by simp [Value.oneCell']) (.inr (by omega)) (by simp [maxLen]; omega) (by omega) hws ?_; intro g cap w4 hown hgr hgg)
    have HO4 : Hid (Ext w w4 ∧ w4.ownsRow w.heap.size 3 1 (.slice (some ⟨g, 0, none⟩) (k + 1) cap) (k + 1) (i64s (ds ++ [dv]))) := by
     refine ⟨ext_grownW HE3.out hgr (fun g hg => (own_lt HO3.out hg).2), ?_⟩
     rw [i64s_append]
     exact hown
    clear hown hgr hgg
    go_roundw
    case rel => exact ⟨k + 1, 0, ds ++ [dv], by omega, by omega, rfl, by go_num, HD2.out, HO4.out⟩
    case measure => simp [intOf]; omega
  ·have hb1 : decide ((k : Int) < (n : Int)) = false := by simp; omega
   have hb2 : decide (k < n) = false := by simp; omega
   obtain rfl : k = n := by omega
   obtain ⟨A', c', rfl, h1, h2, h3⟩ := own_half HO.out HD.out.2.1
   have HV : Hid (hOf ds = hOf xs - hOf ys) := sub_end HA.out.2.1 HA.out.1 HD.out.2.1 HD.out.1 hcy HLE.out HD.out.2.2
   have HH := LH h3
   have HF : Hid (∀ ad, A' = some ad → w.heap.size ≤ ad.block) := fun ad e => by subst e; exact (own_lt HO.out (by simp [Value.ownBlock])).2
   clear h3
   go_wp2_with fail
   refine (rtrim_any A' k c' ds wr HH.out h1 h2).mono ?_
   rintro e w1 ⟨rfl, rfl⟩
   have HT := LH HH.out.trim
   have hl := half_len_ge HH.out.2.1
   rw [HH.out.1] at hl
   rw [HV.out] at HT hl ⊢
   go_wp2_with fail
   go_ret
   exact ⟨_, _, rfl, HT.out, by omega, h2, HE.out, HF.out⟩
theorem rsub_any (A : Option Addr) (n c : Nat) (xs : List Nat) (B : Option Addr) (m d : Nat) (ys : List Nat) (w : World) (ha : HalfAt w A n xs) (hb : HalfAt w B m ys) (hn : n ≤ 1073741824) (hm : m ≤ 1073741824) (hle : hOf ys ≤ hOf xs) :
  Calls Tryz.prog 122 #[.slice A n c, .slice B m d] w (RetH w (hOf xs - hOf ys)) := by
 refine (rsub_new A n c xs B m d ys w ha hb hn hm hle).mono ?_
 rintro e w' ⟨A', c', h1, h2, h3, h4, h5, -⟩
 exact ⟨A', c', h1, h2, h3, h4, h5⟩
end Go.Proofs.YtjinpfnefeiooaaGreat
namespace Go.Proofs.YtjinpfnefeiooaaGreat
open Go.RowKit

theorem hOf_drop_le (xs : List Nat) (k : Nat) : hOf (xs.drop k) ≤ hOf xs := by
 have h := hOf_splitP xs k
 have h1 : 1 * hOf (xs.drop k) ≤ 65536 ^ k * hOf (xs.drop k) := Nat.mul_le_mul_right _ (Nat.pow_pos (by omega))
 omega
theorem small_lt {xs : List Nat} {n : Nat} (h : Halves xs) (hl : xs.length = n) (hn : n ≤ 3) : hOf xs < 281474976710656 := by
 have h1 := hOf_lt h
 rw [hl] at h1
 have h2 : 65536 ^ n ≤ 65536 ^ 3 := Nat.pow_le_pow_right (by omega) hn
 have h3 : (65536 : Nat) ^ 3 = 281474976710656 := by decide
 omega
set_option maxRecDepth 100000 in
set_option maxHeartbeats 4000000 in
theorem rsmall_any (A : Option Addr) (n c : Nat) (xs : List Nat) (w : World) (h : HalfAt w A n xs) (hn : n ≤ 3) :
  Calls Tryz.prog 137 #[.slice A n c] w fun e w' => e = .returned (.int .i64 (hOf xs : Nat)) ∧ w = w' := by
 have HA := LH h
 have HB := LH (small_lt h.2.1 h.1 hn)
 clear h
 go_enter Tryz.func137, Tryz.ntmps137
 go_wp2_with fail
 go_loop [3, 4] (fun v i => ∃ k : Nat, k ≤ n ∧ v = .int .i64 (hOf (xs.drop k) : Nat) ∧ i = .int .i64 ((k : Int) - 1)) (fun _ i => (intOf i + 1).toNat)
 case atStart => exact ⟨n, by omega, by rw [drop_end (by rw [HA.out.1]; omega)]; rfl, rfl⟩
 case round =>
  obtain ⟨k, hk, rfl, rfl⟩ := hrel
  cases k with
  | zero =>
   have HE : Hid (hOf (xs.drop 0) = hOf xs) := by unfold Hid; rw [List.drop_zero]
   have hb0 : decide ((0 : Int) ≤ ((0 : Nat) : Int) - 1) = false := by simp
   generalize hOf (xs.drop 0) = v at *
   go_wp2_with fail
   go_ret
   exact ⟨ret_i (by rw [HE.out]), rfl⟩
  | succ k =>
   rw [show (((k + 1 : Nat)) : Int) - 1 = (k : Int) by omega]
   have hb0 : decide ((0 : Int) ≤ (k : Int)) = true := by simp
   have HD1 := LH (hOf_dropP xs k)
   have hle := hOf_drop_le xs k
   have hlt := HB.out
   obtain ⟨b, off, rfl, -, hc⟩ := HA.out.2.2 (by omega)
   have xc := hc k (by omega)
   have hz0 : (0 : Int) ≤ (k : Int) := by omega
   have hzn : (k : Int) < (n : Int) := by omega
   have hx := getD_lt HA.out.2.1 k
   clear hc
   obtain ⟨v, hv⟩ : ∃ v, hOf (xs.drop (k + 1)) = v := ⟨_, rfl⟩
   obtain ⟨u, hu⟩ : ∃ v, hOf (xs.drop k) = v := ⟨_, rfl⟩
   rw [hv] at HD1 ⊢
   rw [hu] at HD1 hle
   generalize xs.getD k 0 = x at *
   have hd := HD1.out
   have hvi : (v : Int) * 65536 + (x : Int) = (u : Int) := by omega
   have hv2 : v ≤ 4294967296 := by omega
   have hu2 : u < 281474976710656 := by omega
   have HU := LH hu
   clear hd hle hlt hv hu HD1
   go_wp2_with fail
   go_round
   case rel => exact ⟨k, by omega, by rw [HU.out], by go_num⟩
   case measure => simp [intOf]
theorem half3 (w : World) (a b c : Nat) (t : TypeId) (ha : a < 65536) (hb : b < 65536) (hc : c < 65536) : HalfAt (w.alloc (.cells #[.int .i64 (a : Int), .int .i64 (b : Int), .int .i64 (c : Int)] t)) (some ⟨w.heap.size, 0, none⟩) 3 [a, b, c] := by
 have hbk := Blk.new w t #[.int .i64 (a : Int), .int .i64 (b : Int), .int .i64 (c : Int)]
 refine ⟨rfl, fun y hy => ?_, fun _ => ⟨w.heap.size, 0, rfl, by simp, fun i hi => ?_⟩⟩
 ·simp at hy; omega
 ·rw [hbk.cell, Nat.zero_add]
  have : i = 0 ∨ i = 1 ∨ i = 2 := by omega
  rcases this with rfl | rfl | rfl <;> rfl
set_option maxRecDepth 100000 in
set_option maxHeartbeats 4000000 in
theorem rback_any (v : Nat) (w : World) (hv : v < 281474976710656) :
  Calls Tryz.prog 136 #[.int .i64 (v : Int)] w (RetH w v) := by
 obtain ⟨a, ha⟩ : ∃ u, v % 65536 = u := ⟨_, rfl⟩
 obtain ⟨r, hr⟩ : ∃ u, v / 65536 = u := ⟨_, rfl⟩
 obtain ⟨b, hb⟩ : ∃ u, r % 65536 = u := ⟨_, rfl⟩
 obtain ⟨c, hc⟩ : ∃ u, r / 65536 = u := ⟨_, rfl⟩
 have h1 : (v : Int) % 65536 = (a : Int) := by omega
 have h2 : (v : Int) / 65536 = (r : Int) := by omega
 have h3 : (r : Int) % 65536 = (b : Int) := by omega
 have h4 : (r : Int) / 65536 = (c : Int) := by omega
 have ha1 : a < 65536 := by omega
 have hb1 : b < 65536 := by omega
 have hc1 : c < 65536 := by omega
 have hr1 : r ≤ 4294967295 := by omega
 have HV : Hid (hOf [a, b, c] = v) := by
  unfold Hid
  simp only [hOf]
  omega
 clear ha hr hb hc
 go_enter Tryz.func136, Tryz.ntmps136
 go_wp2_with fail
 have hH := half3 w a b c 3 ha1 hb1 hc1
 have hE : Ext w (w.alloc (.cells #[.int .i64 (a : Int), .int .i64 (b : Int), .int .i64 (c : Int)] 3)) := Ext.al Ext.rfl' _
 generalize w.alloc (.cells #[.int .i64 (a : Int), .int .i64 (b : Int), .int .i64 (c : Int)] 3) = w1 at *
 have HH := LH hH
 have HE := LH hE
 clear hH hE
 refine (rtrim_any _ 3 3 [a, b, c] w1 HH.out (by omega) (by simp [maxLen])).mono ?_
 rintro e w2 ⟨rfl, rfl⟩
 have HT := LH HH.out.trim
 have hl := half_len_ge HH.out.2.1
 rw [HV.out] at HT hl ⊢
 simp only [List.length_cons, List.length_nil, Nat.zero_add, Nat.reduceAdd] at hl
 go_wp2_with fail
 go_ret
 exact ⟨_, _, rfl, HT.out, by omega, by simp [maxLen], HE.out⟩
end Go.Proofs.YtjinpfnefeiooaaGreat
namespace Go.Proofs.YtjinpfnefeiooaaGreat
open Go.RowKit

theorem one_ints (row : List Nat) : ∀ u ∈ i64s row, u.oneCell' = true := fun u hu => by
 obtain ⟨x, _, rfl⟩ := List.mem_map.1 hu
 rfl
set_option maxRecDepth 100000 in
theorem run_append_int (w : World) (base ty : Nat) (v : Value) (n : Nat) (xs : List Value) (hown : w.ownsRow base 3 1 v n xs) (R : Option Addr) (m d : Nat) (row : List Nat) (hsrc : HalfAt w R m row)
  (hv : v ≠ .slice none 0 0 ∨ 0 < m) (h63 : n + m ≤ 1000000) (hbase : base ≤ w.heap.size) :
  ∃ g cap w', (Builtin.append_ #[120, 120] ty #[v, .slice R m d]).run Tryz.prog w = .ok (.slice (some ⟨g, 0, none⟩) (n + m) cap) w' ∧ w'.ownsRow base 3 1 (.slice (some ⟨g, 0, none⟩) (n + m) cap) (n + m) (xs ++ i64s row) ∧
   w.grownBy w' v.ownBlock ∧ (v.ownBlock = some g ∨ g = w.heap.size) := by
 obtain ⟨i0, hi0, hz0, hz1, hz2⟩ := info_parts info_int
 rcases R with _ | ad
 ·have hm : m = 0 := by
   rcases Nat.eq_zero_or_pos m with h0 | h0
   ·exact h0
   ·obtain ⟨_, _, e, _⟩ := hsrc.2.2 h0; cases e
  subst hm
  have hrow : row = [] := List.eq_nil_of_length_eq_zero hsrc.1
  subst hrow
  rcases hown.2 with ⟨rfl, _⟩ | ⟨g, cap, cur, rfl, h1, h2, h3, h4⟩
  ·rcases hv with hv | hv
   ·exact absurd rfl hv
   ·omega
  ·refine ⟨g, cap, w, ?_, by simpa [i64s] using hown, World.grownBy.refl w _, .inl rfl⟩
   simp [Builtin.append_, run_underlying Tryz.underlying120, sizeOf, typeInfo, hi0, Builtin.lenOf, Builtin.firstCells, h3, storeCells]
 ·have hnews : ∀ j x, (i64s row)[j]? = some x → w.cell? (ad.add j) = some x := by
   intro j x hx
   rcases Nat.eq_zero_or_pos m with h0 | h0
   ·have hrow : row = [] := List.eq_nil_of_length_eq_zero (by rw [hsrc.1, h0])
    subst hrow
    simp [i64s] at hx
   ·obtain ⟨b, off, e, hlt, hc⟩ := hsrc.2.2 h0
    injection e with e
    subst e
    have hj : j < row.length := by
     rcases Nat.lt_or_ge j row.length with h | h
     ·exact h
     ·rw [List.getElem?_eq_none (by rw [i64s_len]; exact h)] at hx; cases hx
    have : (⟨b, off, none⟩ : Addr).add j = ⟨b, off + j, none⟩ := by unfold Addr.add; split <;> simp_all
    rw [this, hc j (by rw [← hsrc.1]; exact hj), ← hx]
    simp [i64s, List.getD, hj]
  obtain ⟨v', w', hrun, h2, h3, h4, h5⟩ := run_append_own_at (P := Tryz.prog) w base 120 ty 3 i0 _ 1 8 Tryz.underlying120 hi0 hz0 hz1 hz2 rfl (by omega) v n xs hown ad m d (i64s row) (by rw [i64s_len, hsrc.1]; omega) hnews (one_ints row) (by simp [maxLen]; omega) (by omega) hbase
  rcases h2.2 with ⟨hn, _⟩ | ⟨g, cap, cur, rfl, h6⟩
  ·exact absurd (h4.1 hn) (by rintro ⟨e1, e2⟩; rcases hv with hv | hv; exact hv e1; omega)
  ·refine ⟨g, cap, w', hrun, h2, h3, ?_⟩
   rcases h5 with h5 | h5
   ·exact .inl h5.symm
   ·exact .inr (by simpa [Value.ownBlock] using h5)
theorem wpList_append_int (w : World) {ops : Array Oper} {rest : List Oper} {o : Oper} {a : Act} {Q : Exit → Act → World → Prop} (hgd : o.guard = none) (s x : Operand)
  (ho : o.op = .call { callee := .builtin .append, args := #[s, x], argTypes := #[120, 120] })
  (base : Nat) (v : Value) (n : Nat) (xs : List Value) (hs : a.eval s = v) (hown : w.ownsRow base 3 1 v n xs) (R : Option Addr) (m d : Nat) (row : List Nat) (hx : a.eval x = .slice R m d) (hsrc : HalfAt w R m row)
  (hv : v ≠ .slice none 0 0 ∨ 0 < m) (h63 : n + m ≤ 1000000) (hbase : base ≤ w.heap.size)
  (h : ∀ g cap w', w'.ownsRow base 3 1 (.slice (some ⟨g, 0, none⟩) (n + m) cap) (n + m) (xs ++ i64s row) → w.grownBy w' v.ownBlock → (v.ownBlock = some g ∨ g = w.heap.size) → wpList Tryz.prog ops Q rest (a.put o.dst (.slice (some ⟨g, 0, none⟩) (n + m) cap)) w') :
  wpList Tryz.prog ops Q (o :: rest) a w := by
 obtain ⟨g, cap, w', hrun, h2, h3, h4⟩ := run_append_int w base o.type v n xs hown R m d row hsrc hv h63 hbase
 refine wpList_plain hgd fun K hK => ?_
 unfold Oper.wp execOp
 simp only [ho, resolve, invoke, builtin, Sem.run_bind, Sem.run_pure, Result.andThen_ok, List.map_toArray, List.map_cons, List.map_nil, hs, hx, hrun]
 exact hK _ _ (h g cap w' h2 h3 h4)
end Go.Proofs.YtjinpfnefeiooaaGreat
namespace Go.Proofs.YtjinpfnefeiooaaGreat
open Go.RowKit

def HasH (w : World) (v : Value) (L m : Nat) : Prop := ∃ A c ds, v = .slice A L c ∧ HalfAt w A L ds ∧ hOf ds = m ∧ L ≤ c ∧ c ≤ maxLen
theorem HasH.nil (w : World) : HasH w (.slice none 0 0) 0 0 := ⟨none, 0, [], rfl, HalfAt.nil w none, rfl, Nat.le_refl _, by simp [maxLen]⟩
theorem HasH.below {w w' : World} {v : Value} {L m : Nat} (h : HasH w v L m) (hb : Ext w w') : HasH w' v L m := by
 obtain ⟨A, c, ds, h1, h2, h3⟩ := h
 exact ⟨A, c, ds, h1, h2.below hb, h3⟩
theorem pow_add_lt {a b n m : Nat} (h : a < 65536 ^ n) (k : b < 65536 ^ m) : a * b < 65536 ^ (n + m) := by
 rw [Nat.pow_add]
 exact Nat.mul_lt_mul'' h k
theorem hOf_drop_lt {xs : List Nat} (h : Halves xs) (k : Nat) : hOf (xs.drop k) < 65536 ^ (xs.length - k) := by
 have := hOf_lt (h.drop k)
 rwa [List.length_drop] at this
theorem mul_len {xs ys : List Nat} {n m k t : Nat} (hx : Halves xs) (hy : Halves ys) (hn : xs.length = n) (hm : ys.length = m) (_hk : k + 1 ≤ n) (ht : t ≤ xs.getD k 0) :
  (halfOf ((65536 * hOf (xs.drop (k + 1)) + t) * hOf ys)).length ≤ n - k + m := by
 rw [halfOf_len]
 have h1 := hOf_drop_lt hx k
 have h2 := hOf_lt hy
 rw [hn] at h1
 rw [hm] at h2
 have h3 := hOf_dropP xs k
 exact pow_add_lt (by omega) h2
theorem times_len {ys : List Nat} {m t : Nat} (hy : Halves ys) (hm : ys.length = m) (ht : t < 65536) : (halfOf (t * hOf ys)).length ≤ 1 + m := by
 rw [halfOf_len]
 have h2 := hOf_lt hy
 rw [hm] at h2
 exact pow_add_lt (by simpa using ht) h2
theorem lit_int (w : World) (B : Nat) (hB : B ≤ w.heap.size) (x : Nat) : (w.alloc (.cells #[.int .i64 (x : Int)] 3)).ownsRow B 3 1 (.slice (some ⟨w.heap.size, 0, none⟩) 1 1) 1 (i64s [x]) :=
 ⟨by simp [i64s], .inr ⟨w.heap.size, 1, #[.int .i64 (x : Int)], rfl, hB, heap_alloc_new w _, Nat.le_refl _, by simp [maxLen], by simp, by simp [i64s]⟩⟩
theorem wpList_cons_int (w : World) (x : Nat) (hx : x < 65536) {ops : Array Oper} {rest : List Oper} {o : Oper} {a : Act} {Q : Exit → Act → World → Prop} (hgd : o.guard = none) (s y : Operand)
  (ho : o.op = .call { callee := .builtin .append, args := #[s, y], argTypes := #[120, 120] })
  (hs : a.eval s = .slice (some ⟨w.heap.size, 0, none⟩) 1 1) (A : Option Addr) (L c : Nat) (ds : List Nat) (hy : a.eval y = .slice A L c) (hsrc : HalfAt w A L ds) (h63 : L ≤ 999999)
  (h : ∀ g cap w', HalfAt w' (some ⟨g, 0, none⟩) (1 + L) (x :: ds) → 1 + L ≤ cap → cap ≤ maxLen → Ext w w' → wpList Tryz.prog ops Q rest (a.put o.dst (.slice (some ⟨g, 0, none⟩) (1 + L) cap)) w') :
  wpList Tryz.prog ops Q (o :: rest) a (w.alloc (.cells #[.int .i64 (x : Int)] 3)) := by
 have hE : Ext w (w.alloc (.cells #[.int .i64 (x : Int)] 3)) := Ext.al Ext.rfl' _
 refine wpList_append_int _ hgd s y ho w.heap.size _ 1 _ hs (lit_int w _ (Nat.le_refl _) x) A L c ds hy (hsrc.below hE) (.inl (by simp)) (by omega) hE.size fun g cap w' hown hgr hgg => ?_
 have hown2 : w'.ownsRow w.heap.size 3 1 (.slice (some ⟨g, 0, none⟩) (1 + L) cap) (1 + L) (i64s (x :: ds)) := hown
 obtain ⟨A2, c2, e, h1, h2, h3⟩ := own_half hown2 (Halves.cons hx hsrc.2.1)
 injection e with e1 e2 e3
 subst e1 e3
 exact h g cap w' h3 h1 h2 (ext_grownW hE hgr (fun g hg => by simp [Value.ownBlock] at hg; omega))
set_option maxRecDepth 100000 in
set_option maxHeartbeats 8000000 in
theorem rmul_any (A : Option Addr) (n c : Nat) (xs : List Nat) (B : Option Addr) (m d : Nat) (ys : List Nat) (w : World) (ha : HalfAt w A n xs) (hb : HalfAt w B m ys) (hn : n ≤ 400000) (hm : m ≤ 400000) :
  Calls Tryz.prog 119 #[.slice A n c, .slice B m d] w (RetH w (hOf xs * hOf ys)) := by
 have HA := LH ha
 have HB := LH hb
 clear ha hb
 go_enter Tryz.func119, Tryz.ntmps119
 by_cases hs : n + m ≤ 3
 ·have hb1 : decide ((n : Int) + (m : Int) ≤ 3) = true := by simp; omega
  have CA := LH (rsmall_any A n c xs w HA.out (by omega))
  have CB := LH (rsmall_any B m d ys w HB.out (by omega))
  have hxl : hOf xs < 281474976710656 := small_lt HA.out.2.1 HA.out.1 (by omega)
  have hyl : hOf ys < 281474976710656 := small_lt HB.out.2.1 HB.out.1 (by omega)
  have hpl : hOf xs * hOf ys < 281474976710656 := by
   have h1 := hOf_lt HA.out.2.1
   have h2 := hOf_lt HB.out.2.1
   rw [HA.out.1] at h1
   rw [HB.out.1] at h2
   have h3 := pow_add_lt h1 h2
   have h4 : 65536 ^ (n + m) ≤ 65536 ^ 3 := Nat.pow_le_pow_right (by omega) hs
   have h5 : (65536 : Nat) ^ 3 = 281474976710656 := by decide
   omega
  have CC := LH (rback_any (hOf xs * hOf ys) w hpl)
  obtain ⟨p, hp⟩ : ∃ p, hOf xs * hOf ys = p := ⟨_, rfl⟩
  have hpi : ((hOf xs : Nat) : Int) * ((hOf ys : Nat) : Int) = (p : Int) := by rw [← hp]; simp
  rw [hp] at CC hpl ⊢
  clear hp
  generalize hOf xs = x at *
  generalize hOf ys = y at *
  go_wp2_with fail
  refine CA.out.mono ?_
  rintro e w1 ⟨rfl, rfl⟩
  go_wp2_with fail
  refine CB.out.mono ?_
  rintro e w1 ⟨rfl, rfl⟩
  go_wp2_with fail
  refine CC.out.mono ?_
  rintro e w1 ⟨A', c', rfl, h1, h2, h3, h4⟩
  have HR : Hid (HalfAt w1 A' (halfOf p).length (halfOf p) ∧ (halfOf p).length ≤ c' ∧ c' ≤ maxLen ∧ Ext w w1) := ⟨h1, h2, h3, h4⟩
  clear h1 h2 h3 h4
  go_wp2_with fail
  go_ret
  exact ⟨_, _, rfl, HR.out⟩
 ·have hb1 : decide ((n : Int) + (m : Int) ≤ 3) = false := by simp; omega
  go_wp2_with fail
  go_loopw [5, 6] (fun v i wr => ∃ (k L : Nat), k ≤ n ∧ L ≤ n - k + m ∧ i = .int .i64 ((k : Int) - 1) ∧ Hid (Ext w wr ∧ HasH wr v L (hOf (xs.drop k) * hOf ys))) (fun _ i _ => (intOf i + 1).toNat)
  case atStart => exact ⟨n, 0, by omega, by omega, rfl, Ext.rfl', by rw [drop_end (by rw [HA.out.1]; omega), Nat.zero_mul]; exact HasH.nil w⟩
  case round =>
   obtain ⟨k, L, hk, hL, rfl, HI⟩ := hrel
   have HE := LH HI.out.1
   have HO := LH HI.out.2
   clear HI
   cases k with
   | zero =>
    have hb0 : decide ((0 : Int) ≤ ((0 : Nat) : Int) - 1) = false := by simp
    obtain ⟨A', c', ds, rfl, h1, h2, h3, h4⟩ := HO.out
    rw [List.drop_zero] at h2
    have HH := LH h1
    have HV := LH h2
    clear h1 h2 HO
    go_wp2_with fail
    refine (rtrim_any A' L c' ds wr HH.out h3 h4).mono ?_
    rintro e w1 ⟨rfl, rfl⟩
    have HT := LH HH.out.trim
    have hl := half_len_ge HH.out.2.1
    rw [HH.out.1] at hl
    rw [HV.out] at HT hl ⊢
    go_wp2_with fail
    go_ret
    exact ⟨_, _, rfl, HT.out, by omega, h4, HE.out⟩
   | succ k =>
    rw [show (((k + 1 : Nat)) : Int) - 1 = (k : Int) by omega]
    have hb0 : decide ((0 : Int) ≤ (k : Int)) = true := by simp
    obtain ⟨A', c', ds, rfl, h1, h2, h3, h4⟩ := HO.out
    have HH := LH h1
    have HV := LH h2
    clear h1 h2 HO
    obtain ⟨b, off, rfl, -, hcell⟩ := HA.out.2.2 (by omega)
    have HC := LH (hcell k (by omega))
    clear hcell
    have hx := getD_lt HA.out.2.1 k
    have HD := LH (hOf_dropP xs k)
    have HM := LH (fun t => mul_len (t := t) HA.out.2.1 HB.out.2.1 HA.out.1 HB.out.1 hk)
    generalize xs.getD k 0 = x at *
    go_wp2_with (at_builtin; refine wpList_cons_int wr 0 (by omega) rfl (.tmp 27) (.tmp 28) rfl rfl A' L c' ds rfl HH.out (by omega) ?_; intro g cap w4 h5 h6 h7 h8)
    have HO4 : Hid (Ext w w4 ∧ HasH w4 (.slice (some ⟨g, 0, none⟩) (1 + L) cap) (1 + L) ((65536 * hOf (xs.drop (k + 1)) + 0) * hOf ys)) := by
     refine ⟨ET HE.out h8, _, cap, 0 :: ds, rfl, h5, ?_, h6, h7⟩
     simp only [hOf, HV.out, Nat.zero_add, Nat.add_zero, Nat.mul_assoc]
    clear h5 h6 h7 h8 HH HV HE
    go_loopw [5, 7] (fun v i wq => ∃ (j L : Nat), j ≤ 70000 ∧ L ≤ n - k + m ∧ i = .int .i64 (j : Int) ∧ Hid (Ext w wq ∧ HasH wq v L ((65536 * hOf (xs.drop (k + 1)) + min j x) * hOf ys))) (fun _ i _ => x - (intOf i).toNat)
    case atStart => exact ⟨0, 1 + L, by omega, by omega, rfl, HO4.out.1, by rw [Nat.zero_min]; exact HO4.out.2⟩
    case round =>
     clear HO4
     obtain ⟨j, L2, hj, hL2, rfl, HI⟩ := hrel
     have HE := LH HI.out.1
     obtain ⟨A2, c2, es, rfl, h1, h2, h3, h4⟩ := HI.out.2
     have HH := LH h1
     have HV := LH h2
     have HCA := LH (And.intro h3 h4)
     have hcl := Ext.cellOf HE.out HC.out
     clear h1 h2 h3 h4 HI
     have hz0 : (0 : Int) ≤ (k : Int) := by omega
     have hzn : (k : Int) < (n : Int) := by omega
     by_cases hjx : j < x
     ·have hb2 : decide ((j : Int) < (x : Int)) = true := by simp; omega
      have hb3 : decide (j < x) = true := by simp; omega
      obtain ⟨u, hu⟩ : ∃ u, x - j = u := ⟨_, rfl⟩
      have hui : (x : Int) - (j : Int) = (u : Int) := by omega
      obtain ⟨t, ht⟩ : ∃ t, min 1024 u = t := ⟨_, rfl⟩
      have htl : t ≤ 1024 := by omega
      have CT := LH (rtimes_any B m d ys t wr (HB.out.below HE.out) (by omega) (by omega))
      have HTL : Hid ((halfOf (t * hOf ys)).length ≤ 1 + m) := times_len HB.out.2.1 HB.out.1 (by omega)
      have HT : Hid (min (j + 1024) x = min j x + t) := by unfold Hid; omega
      have HL : Hid (min j x + t ≤ x) := by unfold Hid; omega
      have HJ : Hid (x - (j + 1024) < x - j) := by unfold Hid; omega
      by_cases hu2 : u < 1024
      ·have hm1 : decide ((u : Int) < 1024) = true := by simp; omega
       have hm2 : decide ((1024 : Int) < (u : Int)) = false := by simp; omega
       have hm3 : decide ((1024 : Int) ≤ (u : Int)) = false := by simp; omega
       have hm4 : decide ((u : Int) ≤ 1024) = true := by simp; omega
       obtain rfl : t = u := by omega
       clear ht hu
       go_wp2_with fail
       refine CT.out.mono ?_
       rintro e w1 ⟨A3, c3, rfl, h1, h2, h3, h4⟩
       have HE1 := LH (ET HE.out h4)
       have CS := LH (radd_any A2 L2 c2 es A3 _ c3 _ w1 (HH.out.below h4) h1 (by omega) (Nat.le_trans HTL.out (by omega)))
       rw [HV.out, hOf_halfOf, ← Nat.add_mul, Nat.add_assoc, ← HT.out] at CS
       clear h1 h2 h3 h4
       go_wp2_with fail
       refine CS.out.mono ?_
       rintro e w2 ⟨A4, c4, rfl, h1, h2, h3, h4⟩
       have HO5 : Hid (Ext w w2 ∧ HasH w2 (.slice A4 (halfOf ((65536 * hOf (xs.drop (k + 1)) + min (j + 1024) x) * hOf ys)).length c4) (halfOf ((65536 * hOf (xs.drop (k + 1)) + min (j + 1024) x) * hOf ys)).length ((65536 * hOf (xs.drop (k + 1)) + min (j + 1024) x) * hOf ys)) := ⟨ET HE1.out h4, A4, c4, _, rfl, h1, hOf_halfOf _, h2, h3⟩
       have HL5 : Hid ((halfOf ((65536 * hOf (xs.drop (k + 1)) + min (j + 1024) x) * hOf ys)).length ≤ n - k + m) := HM.out _ (by rw [HT.out]; exact HL.out)
       clear h1 h2 h3 h4 CS
       generalize (halfOf ((65536 * hOf (xs.drop (k + 1)) + min (j + 1024) x) * hOf ys)).length = L5 at *
       go_wp2_with fail
       go_roundw
       case rel => exact ⟨j + 1024, L5, by omega, HL5.out, by go_num, HO5.out⟩
       case measure => simp [intOf]; exact HJ.out
      ·have hm1 : decide ((u : Int) < 1024) = false := by simp; omega
       have hm3 : decide ((1024 : Int) ≤ (u : Int)) = true := by simp; omega
       have htk : (t : Int) = 1024 := by omega
       clear ht hu
       rw [htk] at CT
       go_wp2_with fail
       refine CT.out.mono ?_
       rintro e w1 ⟨A3, c3, rfl, h1, h2, h3, h4⟩
       have HE1 := LH (ET HE.out h4)
       have CS := LH (radd_any A2 L2 c2 es A3 _ c3 _ w1 (HH.out.below h4) h1 (by omega) (Nat.le_trans HTL.out (by omega)))
       rw [HV.out, hOf_halfOf, ← Nat.add_mul, Nat.add_assoc, ← HT.out] at CS
       clear h1 h2 h3 h4
       go_wp2_with fail
       refine CS.out.mono ?_
       rintro e w2 ⟨A4, c4, rfl, h1, h2, h3, h4⟩
       have HO5 : Hid (Ext w w2 ∧ HasH w2 (.slice A4 (halfOf ((65536 * hOf (xs.drop (k + 1)) + min (j + 1024) x) * hOf ys)).length c4) (halfOf ((65536 * hOf (xs.drop (k + 1)) + min (j + 1024) x) * hOf ys)).length ((65536 * hOf (xs.drop (k + 1)) + min (j + 1024) x) * hOf ys)) := ⟨ET HE1.out h4, A4, c4, _, rfl, h1, hOf_halfOf _, h2, h3⟩
       have HL5 : Hid ((halfOf ((65536 * hOf (xs.drop (k + 1)) + min (j + 1024) x) * hOf ys)).length ≤ n - k + m) := HM.out _ (by rw [HT.out]; exact HL.out)
       clear h1 h2 h3 h4 CS
       generalize (halfOf ((65536 * hOf (xs.drop (k + 1)) + min (j + 1024) x) * hOf ys)).length = L5 at *
       go_wp2_with fail
       go_roundw
       case rel => exact ⟨j + 1024, L5, by omega, HL5.out, by go_num, HO5.out⟩
       case measure => simp [intOf]; exact HJ.out
     ·have hb2 : decide ((j : Int) < (x : Int)) = false := by simp; omega
      have hb3 : decide (j < x) = false := by simp; omega
      have HX : Hid ((65536 * hOf (xs.drop (k + 1)) + min j x) * hOf ys = hOf (xs.drop k) * hOf ys) := by
       unfold Hid
       rw [HD.out, Nat.min_eq_right (by omega)]
       congr 1
       omega
      go_wp2_with fail
      go_roundw
      case rel => exact ⟨k, L2, by omega, by omega, by go_num, HE.out, A2, c2, es, rfl, HH.out, by rw [HV.out, HX.out], HCA.out⟩
      case measure => simp [intOf]
end Go.Proofs.YtjinpfnefeiooaaGreat
namespace Go.Proofs.YtjinpfnefeiooaaGreat
open Go.RowKit

def RetHH (w : World) (q r : Nat) (e : Ending) (w' : World) : Prop := ∃ A c B d, e = .returned (.tuple #[.slice A (halfOf q).length c, .slice B (halfOf r).length d]) ∧ HalfAt w' A (halfOf q).length (halfOf q) ∧ (halfOf q).length ≤ c ∧ c ≤ maxLen ∧ HalfAt w' B (halfOf r).length (halfOf r) ∧ (halfOf r).length ≤ d ∧ d ≤ maxLen ∧ Ext w w'
theorem make_fullI (k : Nat) (hk : k ≤ 1000000) (z : Int) (hz : z = k) (w : World) : (Instr.makeSlice 120 (.int .i64 z) (.int .i64 z)).run Tryz.prog w = .ok (.slice (some ⟨w.heap.size, 0, none⟩) k k) (w.alloc (.cells (madeCells #[.int .i64 0] k) 3)) := by
 subst hz
 obtain ⟨i0, hi, hz0, hz1, hz2⟩ := info_parts info_int
 have hr := run_make (P := Tryz.prog) w 120 3 i0 _ Tryz.underlying120 hi hz0 .i64 .i64 k k (by omega) (by omega) (by rw [hz2]; omega) (by omega)
 simp only [Int.toNat_natCast, hz1, Nat.mul_one] at hr
 exact hr
abbrev OwnH (w : World) (B g n c : Nat) (xs : List Nat) : Prop := w.ownsRow B 3 1 (.slice (some ⟨g, 0, none⟩) n c) n (i64s xs)
theorem own_madeI (w : World) (B k : Nat) (hB : B ≤ w.heap.size) (hk : k ≤ 1000000) : OwnH (w.alloc (.cells (madeCells #[.int .i64 0] k) 3)) B w.heap.size k k (List.replicate k 0) := by
 have h := World.ownsRow_lit (base := B) (e := 3) (size := 1) w (madeCells #[.int .i64 0] k) k hB (by simp [maxLen]; omega) (by simp [size_madeCells])
 rw [toList_madeCells_one] at h
 show World.ownsRow _ _ _ _ _ _ (i64s _)
 have e : i64s (List.replicate k 0) = List.replicate k (.int .i64 0) := by simp [i64s]
 rw [e]
 exact h
theorem OwnH.len {w : World} {B g n c : Nat} {xs : List Nat} (h : OwnH w B g n c xs) : xs.length = n := by have := h.1; simpa [i64s] using this
theorem OwnH.cell {w : World} {B g n c : Nat} {xs : List Nat} (h : OwnH w B g n c xs) {j : Nat} (hj : j < n) : w.cell? ⟨g, j, none⟩ = some (.int .i64 (xs.getD j 0 : Nat)) := by
 rw [h.cellAt j (by omega)]
 have := h.len
 simp [i64s, List.getD, show j < xs.length by omega]
theorem OwnH.frozen {w : World} {B g n c : Nat} {xs : List Nat} (h : OwnH w B g n c xs) (j : Nat) : w.frozen? ⟨g, j, none⟩ = false := h.frozenAt j
theorem OwnH.put {w : World} {B g n c : Nat} {xs : List Nat} (h : OwnH w B g n c xs) (j v : Nat) : OwnH (w.setCell ⟨g, j, none⟩ (.int .i64 (v : Int))) B g n c (xs.set j v) := by
 have := (h.stored j (.int .i64 (v : Int))).1
 show World.ownsRow _ _ _ _ _ _ (List.map _ (xs.set j v))
 rw [List.map_set]
 exact this
theorem OwnH.ext {w w' : World} {B g n c : Nat} {xs : List Nat} (h : OwnH w B g n c xs) (hb : Ext w w') : OwnH w' B g n c xs := own_keep h fun k hk => hb.block k (own_lt h hk).1
theorem OwnH.lt {w : World} {B g n c : Nat} {xs : List Nat} (h : OwnH w B g n c xs) : g < w.heap.size ∧ B ≤ g := own_lt h rfl
theorem div_step {xs qs : List Nat} {k Y R d r : Nat} (hk : k < qs.length) (h : hOf (xs.drop (k + 1)) = Y * hOf (qs.drop (k + 1)) + R) (hr : xs.getD k 0 + 65536 * R = Y * d + r) :
  hOf (xs.drop k) = Y * hOf ((qs.set k d).drop k) + r := by
 rw [hOf_dropP xs k, hOf_dropP (qs.set k d) k, List.drop_set_of_lt (by omega), h]
 have e : (qs.set k d).getD k 0 = d := by simp [List.getD, hk]
 rw [e, Nat.mul_add, Nat.mul_add]
 have : Y * (65536 * hOf (qs.drop (k + 1))) = 65536 * (Y * hOf (qs.drop (k + 1))) := by rw [Nat.mul_left_comm]
 omega
theorem div_end {X Y Q R : Nat} (h : X = Y * Q + R) (hR : R < Y) : X / Y = Q ∧ X % Y = R := by
 subst h
 exact ⟨by rw [Nat.mul_add_div (by omega), Nat.div_eq_of_lt hR, Nat.add_zero], by rw [Nat.mul_add_mod, Nat.mod_eq_of_lt hR]⟩
theorem half1 (w : World) (x : Nat) (hx : x < 65536) : HalfAt (w.alloc (.cells #[.int .i64 (x : Int)] 3)) (some ⟨w.heap.size, 0, none⟩) 1 [x] := by
 obtain ⟨A, c, e, -, -, h⟩ := own_half (lit_int w 0 (Nat.zero_le _) x) (Halves.cons hx Halves.nil)
 injection e with e
 rw [e]
 exact h
theorem OwnH.half {w : World} {B g n c : Nat} {xs : List Nat} (h : OwnH w B g n c xs) (hx : Halves xs) : HalfAt w (some ⟨g, 0, none⟩) n xs ∧ n ≤ c ∧ c ≤ maxLen := by
 obtain ⟨A, c', e, h1, h2, h3⟩ := own_half h hx
 injection e with e1 e2 e3
 subst e1 e3
 exact ⟨h3, h1, h2⟩
set_option maxRecDepth 100000 in
set_option maxHeartbeats 8000000 in
theorem rdiv_one (A : Option Addr) (n c : Nat) (xs : List Nat) (B : Option Addr) (d y : Nat) (w : World) (ha : HalfAt w A n xs) (hb : HalfAt w B 1 [y]) (hn : n ≤ 400000) (hn3 : 3 < n) (h0 : 0 < y) :
  Calls Tryz.prog 132 #[.slice A n c, .slice B 1 d] w (RetHH w (hOf xs / y) (hOf xs % y)) := by
 have HA := LH ha
 have hy : y < 65536 := hb.2.1 y (by simp)
 obtain ⟨bB, oB, rfl, -, hcB⟩ := hb.2.2 (by omega)
 have HB := LH (hcB 0 (by omega))
 obtain ⟨bA, oA, rfl, -, hcA⟩ := ha.2.2 (by omega)
 have HCA := LH hcA
 clear ha hb hcB hcA
 have hb1 : decide ((n : Int) ≤ 3) = false := by simp; omega
 have hmk := make_fullI n (by omega) (n : Int) rfl
 have HO0 := LH (own_madeI w w.heap.size n (Nat.le_refl _) (by omega))
 go_enter Tryz.func132, Tryz.ntmps132
 go_wp2_with fail
 go_loopw [7, 8] (fun r i wr => ∃ (k rr : Nat) (qs : List Nat), k ≤ n ∧ i = .int .i64 ((k : Int) - 1) ∧ r = .int .i64 rr ∧ rr < y ∧ Hid (OwnH wr w.heap.size w.heap.size n n qs ∧ Halves qs) ∧ Hid (hOf (xs.drop k) = y * hOf (qs.drop k) + rr) ∧ Hid (Ext w wr)) (fun _ i _ => (intOf i + 1).toNat)
 case atStart => exact ⟨n, 0, _, Nat.le_refl _, rfl, rfl, h0, ⟨HO0.out, Halves.replicate _⟩, by unfold Hid; rw [drop_end (by rw [HA.out.1]; exact Nat.le_refl _), drop_end (by simp), Nat.mul_zero], Ext.al Ext.rfl' _⟩
 case round =>
  obtain ⟨k, rr, qs, hk, rfl, rfl, hrr, HO, HV, HE⟩ := hrel
  cases k with
  | zero =>
   have hb : decide ((0 : Int) ≤ ((0 : Nat) : Int) - 1) = false := by simp
   have HR : Hid (hOf xs / y = hOf qs ∧ hOf xs % y = rr) := div_end (by simpa using HV.out) hrr
   have HH := LH (HO.out.1.half HO.out.2)
   clear HV HO HO0
   go_wp2_with fail
   refine (rtrim_any _ n n qs wr HH.out.1 HH.out.2.1 HH.out.2.2).mono ?_
   rintro e w1 ⟨rfl, rfl⟩
   have HT := LH HH.out.1.trim
   have hl := half_len_ge HH.out.1.2.1
   rw [HH.out.1.1] at hl
   have H1 := LH (half1 wr rr (by omega))
   go_wp2_with fail
   refine (rtrim_any _ 1 1 [rr] _ H1.out (by omega) (by simp [maxLen])).mono ?_
   rintro e w1 ⟨rfl, rfl⟩
   have HT1 := LH H1.out.trim
   have hl1 := half_len_ge H1.out.2.1
   have hE1 : Ext wr (wr.alloc (.cells #[.int .i64 (rr : Int)] 3)) := Ext.al Ext.rfl' _
   have HT2 := LH (HT.out.below hE1)
   have HE2 := LH (ET HE.out hE1)
   rw [show hOf [rr] = rr by simp [hOf]] at HT1 hl1 ⊢
   clear hE1
   go_wp2_with fail
   go_ret2
   refine (?_ : RetHH w (hOf xs / y) (hOf xs % y) _ _)
   rw [HR.out.1, HR.out.2]
   exact ⟨_, _, _, _, rfl, HT2.out, hl, HH.out.2.2, HT1.out, hl1, by simp [maxLen], HE2.out⟩
  | succ k =>
   rw [show (((k + 1 : Nat)) : Int) - 1 = (k : Int) by omega]
   have hb0 : decide ((0 : Int) ≤ (k : Int)) = true := by simp
   have h01 : (0 : Int) ≤ (k : Int) := by omega
   have h02 : (k : Int) < (n : Int) := by omega
   have cA := Ext.cellOf HE.out (HCA.out k (by omega))
   have cB := Ext.cellOf HE.out HB.out
   rw [show ([y] : List Nat).getD 0 0 = y from rfl, Nat.add_zero] at cB
   have hx := getD_lt HA.out.2.1 k
   have HST := LH (fun d r => div_step (xs := xs) (qs := qs) (k := k) (d := d) (r := r) (by rw [HO.out.1.len]; omega) HV.out)
   generalize xs.getD k 0 = x at *
   obtain ⟨X, hX⟩ : ∃ X, x + 65536 * rr = X := ⟨_, rfl⟩
   have hXi : (rr : Int) * 65536 + (x : Int) = (X : Int) := by omega
   have hXd : X < y * 65536 := by
    have : (rr + 1) * 65536 ≤ y * 65536 := Nat.mul_le_mul_right _ hrr
    omega
   have hXl : X < 4294967296 := by omega
   have hq : X / y < 65536 := Nat.div_lt_of_lt_mul hXd
   have hr : X % y < y := Nat.mod_lt _ h0
   have HS2 := LH (HST.out (X / y) (X % y) (by rw [hX]; exact (Nat.div_add_mod X y).symm))
   obtain ⟨q, hq0⟩ : ∃ q, X / y = q := ⟨_, rfl⟩
   obtain ⟨s, hs0⟩ : ∃ s, X % y = s := ⟨_, rfl⟩
   have hqz : (X : Int) / (y : Int) = (q : Int) := by rw [← hq0]; simp
   have hsz : (X : Int) % (y : Int) = (s : Int) := by rw [← hs0]; simp
   rw [hq0] at HS2 hq
   rw [hs0] at HS2 hr
   have hy0 : ((y : Int) == 0) = false := by simp; omega
   clear hX hXd hq0 hs0 HST HO0
   have e0 := HO.out.1.cell (j := k) (by omega)
   have e1 := HO.out.1.frozen k
   go_wp2_with fail
   go_region
   all_goals go_wp2_with fail
   all_goals go_roundw
   case rel => exact ⟨k, s, qs.set k q, by omega, by go_num, congrArg (Value.int .i64) hsz, hr, ⟨HO.out.1.put k q, HO.out.2.set k hq⟩, HS2.out, (Below.setCell HE.out (p := ⟨w.heap.size, k, none⟩) (by simp) _).drew⟩
   case measure => simp [intOf]
theorem HalfAt.put {w : World} {A : Option Addr} {n : Nat} {ds : List Nat} (h : HalfAt w A n ds) {g j : Nat} (hg : ∀ ad, A = some ad → ad.block ≠ g) {v : Value} : HalfAt (w.setCell ⟨g, j, none⟩ v) A n ds := by
 refine ⟨h.1, h.2.1, fun h0 => ?_⟩
 obtain ⟨b, off, rfl, hb, hc⟩ := h.2.2 h0
 refine ⟨b, off, rfl, by simpa using hb, fun i hi => ?_⟩
 have hne : b ≠ g := hg _ rfl
 rw [World.cell?_setCell_other _ _ _ _ (by intro hh; injection hh; omega)]
 exact hc i hi
def Lies (lo hi Y R : Nat) : Prop := lo * Y ≤ R ∧ R < hi * Y
theorem cmp_le {a b : Nat} (h : a ≤ b) : decide (cmpN a b ≤ 0) = true := by
 unfold cmpN
 split
 ·rfl
 ·rw [if_neg (by omega)]; rfl
theorem cmp_gt {a b : Nat} (h : b < a) : decide (cmpN a b ≤ 0) = false := by
 unfold cmpN
 rw [if_neg (by omega), if_pos h]
 rfl
set_option maxRecDepth 100000 in
set_option maxHeartbeats 8000000 in
theorem rdiv_long (A : Option Addr) (n c : Nat) (xs : List Nat) (B : Option Addr) (m d : Nat) (ys : List Nat) (w : World) (ha : HalfAt w A n xs) (hb : HalfAt w B m ys) (hn : n ≤ 400000) (hm : m ≤ 400000) (hm1 : 1 < m) (hnm : 3 < n ∨ 3 < m) (h0 : 0 < hOf ys) (hz : halfOf (hOf ys) = ys) :
  Calls Tryz.prog 132 #[.slice A n c, .slice B m d] w (RetHH w (hOf xs / hOf ys) (hOf xs % hOf ys)) := by
 have HA := LH ha
 have HB := LH hb
 have HZ := LH hz
 clear ha hb hz
 have hmk := make_fullI n (by omega) (n : Int) rfl
 have HO0 := LH (own_madeI w w.heap.size n (Nat.le_refl _) (by omega))
 have hb2 : ((m : Int) == 1) = false := by simp; omega
 have HN : Hid (decide ((n : Int) ≤ 3) = false ∨ decide ((n : Int) ≤ 3) = true ∧ decide ((m : Int) ≤ 3) = false) := by
  by_cases h : n ≤ 3
  ·exact .inr ⟨by simp; omega, by simp; omega⟩
  ·exact .inl (by simp; omega)
 clear hnm
 go_enter Tryz.func132, Tryz.ntmps132
 obtain ⟨NN, hNN⟩ : ∃ NN : Int, NN = n := ⟨n, rfl⟩
 rcases HN.out with hb3 | ⟨hb3, hb4⟩ <;> clear HN <;> (
 go_wp2_with fail
 go_loopw [9, 10] (fun r i wr => ∃ (k R : Nat) (qs : List Nat) (D : Option Addr) (e : Nat), k ≤ n ∧ i = .int .i64 ((k : Int) - 1) ∧ r = .slice D (halfOf R).length e ∧ Hid (R < hOf ys) ∧ Hid (HalfAt wr D (halfOf R).length (halfOf R) ∧ (halfOf R).length ≤ e ∧ e ≤ maxLen) ∧ Hid (OwnH wr w.heap.size w.heap.size n n qs ∧ Halves qs) ∧ Hid (hOf (xs.drop k) = hOf ys * hOf (qs.drop k) + R) ∧ Hid (Ext w wr)) (fun _ i _ => (intOf i + 1).toNat)
 case atStart => exact ⟨n, 0, _, none, 0, Nat.le_refl _, rfl, by rw [halfOf_zero]; rfl, h0, by rw [halfOf_zero]; exact ⟨HalfAt.nil _ _, Nat.le_refl _, by simp [maxLen]⟩, ⟨HO0.out, Halves.replicate _⟩, by unfold Hid; rw [drop_end (by rw [HA.out.1]; exact Nat.le_refl _), drop_end (by simp), Nat.mul_zero], Ext.al Ext.rfl' _⟩
 case round =>
  obtain ⟨k, R, qs, D, e, hk, rfl, rfl, HR, HD, HO, HV, HE⟩ := hrel
  clear HO0
  have hRl : (halfOf R).length ≤ m := by
   have := halfOf_mono (Nat.le_of_lt HR.out)
   rw [HZ.out, HB.out.1] at this
   exact this
  cases k with
  | zero =>
   have hb : decide ((0 : Int) ≤ ((0 : Nat) : Int) - 1) = false := by simp
   have HQ : Hid (hOf xs / hOf ys = hOf qs ∧ hOf xs % hOf ys = R) := div_end (by simpa using HV.out) HR.out
   have HH := LH (HO.out.1.half HO.out.2)
   clear HV HO
   go_wp2_with fail
   refine (rtrim_any _ n n qs wr HH.out.1 HH.out.2.1 HH.out.2.2).mono ?_
   rintro e w1 ⟨rfl, rfl⟩
   have HT := LH HH.out.1.trim
   have hl := half_len_ge HH.out.1.2.1
   rw [HH.out.1.1] at hl
   go_wp2_with fail
   go_ret2
   refine (?_ : RetHH w (hOf xs / hOf ys) (hOf xs % hOf ys) _ _)
   rw [HQ.out.1, HQ.out.2]
   exact ⟨_, _, _, _, rfl, HT.out, hl, HH.out.2.2, HD.out.1, HD.out.2.1, HD.out.2.2, HE.out⟩
  | succ k =>
   rw [show (((k + 1 : Nat)) : Int) - 1 = (k : Int) by omega]
   have hb0 : decide ((0 : Int) ≤ (k : Int)) = true := by simp
   have h01 : (0 : Int) ≤ (k : Int) := by omega
   have h02 : (k : Int) < (n : Int) := by omega
   obtain ⟨bA, oA, rfl, -, hcA⟩ := HA.out.2.2 (by omega)
   have cA := Ext.cellOf HE.out (hcA k (by omega))
   clear hcA
   have hx := getD_lt HA.out.2.1 k
   have HST := LH (fun d r => div_step (xs := xs) (qs := qs) (k := k) (d := d) (r := r) (by rw [HO.out.1.len]; omega) HV.out)
   generalize xs.getD k 0 = x at *
   obtain ⟨L, hL⟩ : ∃ L, (halfOf R).length = L := ⟨_, rfl⟩
   rw [hL] at HD hRl ⊢
   have HR1 := HR.out
   clear hL
   obtain ⟨R2, hR2⟩ : ∃ R2, x + 65536 * R = R2 := ⟨_, rfl⟩
   have HST2 : Hid (∀ d r, R2 = hOf ys * d + r → hOf (xs.drop k) = hOf ys * hOf ((qs.set k d).drop k) + r) := fun d r h => HST.out d r (hR2.trans h)
   have HV2 : Hid (hOf (x :: halfOf R) = R2) := by unfold Hid; rw [← hR2]; simp [hOf, hOf_halfOf]
   have hub : R2 < 65536 * hOf ys := by omega
   clear HST hR2 HR1
   go_wp2_with (at_builtin; refine wpList_cons_int wr x hx rfl (.tmp 83) (.tmp 84) rfl rfl D L e (halfOf R) rfl HD.out.1 (by omega) ?_; intro g cap w4 h5 h6 h7 h8)
   have HT := LH h5.trim
   have hl2 := half_len_ge h5.2.1
   rw [h5.1] at hl2
   rw [HV2.out] at HT hl2
   have HE4 := LH (ET HE.out h8)
   have HO4 : Hid (OwnH w4 w.heap.size w.heap.size n n qs ∧ Halves qs) := ⟨HO.out.1.ext h8, HO.out.2⟩
   refine (rtrim_any _ (1 + L) cap (x :: halfOf R) w4 h5 h6 h7).mono ?_
   rintro e2 w1 ⟨rfl, rfl⟩
   rw [HV2.out]
   have HLT : Hid ((halfOf R2).length < m → R2 < hOf ys) := fun h => by
    rcases Nat.lt_or_ge R2 (hOf ys) with h' | h'
    ·exact h'
    ·have := halfOf_mono h'
     rw [HZ.out, HB.out.1] at this
     omega
   have HC : Hid ((halfOf R2).length ≤ cap ∧ cap ≤ maxLen) := ⟨Nat.le_trans hl2 h6, h7⟩
   clear h5 h6 h7 h8 HD HE HO HV HV2 HR
   have hw4 : w.heap.size < w4.heap.size := HO4.out.1.lt.1
   have HSP : Hid (decide (((halfOf R2).length : Int) < (m : Int)) = true ∧ decide ((halfOf R2).length < m) = true ∧ Lies 0 1 (hOf ys) R2 ∨ decide (((halfOf R2).length : Int) < (m : Int)) = false ∧ decide ((halfOf R2).length < m) = false ∧ Lies 0 65536 (hOf ys) R2) := by
    by_cases h : (halfOf R2).length < m
    ·exact .inl ⟨by simp; omega, by simp; omega, by simp, by rw [Nat.one_mul]; exact HLT.out h⟩
    ·exact .inr ⟨by simp; omega, by simp; omega, by simp, hub⟩
   have hl3 : (halfOf R2).length ≤ 400001 := by omega
   clear hl2 HLT
   rcases HSP.out with ⟨hb5, hb8, HLI⟩ | ⟨hb5, hb8, HLI⟩ <;> clear HSP <;> have HL0 := LH HLI <;> clear HLI <;> (
   go_wp2_with fail
   go_loopw [11, 12] (fun lo hi wq => ∃ (l h : Nat), l < h ∧ h ≤ 65536 ∧ lo = .int .i64 (l : Int) ∧ hi = .int .i64 (h : Int) ∧ Hid (Lies l h (hOf ys) R2) ∧ Hid (Ext w4 wq)) (fun lo hi _ => (intOf hi - intOf lo).toNat)
   case atStart => first | exact ⟨0, 1, by omega, by omega, rfl, rfl, HL0.out, Ext.rfl'⟩ | exact ⟨0, 65536, by omega, by omega, rfl, rfl, HL0.out, Ext.rfl'⟩
   case round =>
    clear HL0
    obtain ⟨l, h, hlh, hh, rfl, rfl, HL, HEq⟩ := hrel
    have HBq := LH (HB.out.below (ET HE4.out HEq.out))
    have HTq := LH (HT.out.below HEq.out)
    have hwq : w4.heap.size ≤ wr.heap.size := HEq.out.size
    by_cases hgo : l + 1 < h
    ·have hb6 : decide (1 < (h : Int) - (l : Int)) = true := by simp; omega
     obtain ⟨md, hmd⟩ : ∃ md, (l + h) / 2 = md := ⟨_, rfl⟩
     have hmi : ((l : Int) + (h : Int)) / 2 = (md : Int) := by omega
     have hm1 : l < md := by omega
     have hm2 : md < h := by omega
     clear hmd
     have CT := LH (rtimes_any B m d ys md wr HBq.out (by omega) (by omega))
     have HTL : Hid ((halfOf (md * hOf ys)).length ≤ 1 + m) := times_len HB.out.2.1 HB.out.1 (by omega)
     go_wp2_with fail
     refine CT.out.mono ?_
     rintro e3 w5 ⟨A3, c3, rfl, h1, h2, h3, h4⟩
     have HE5 := LH (ET HEq.out h4)
     have CC := LH (rcmp_any A3 _ c3 _ (some ⟨g, 0, none⟩) _ cap _ w5 h1 (HTq.out.below h4) (Nat.le_trans HTL.out (by omega)) (by omega))
     rw [hOf_halfOf, hOf_halfOf] at CC
     clear h1 h2 h3 h4
     go_wp2_with fail
     refine CC.out.mono ?_
     rintro e3 w6 ⟨rfl, h4⟩
     have HE6 := LH (ET HE5.out h4)
     clear h4 CC CT
     by_cases hle : md * hOf ys ≤ R2
     ·have hb7 := cmp_le hle
      have HL2 : Hid (Lies md h (hOf ys) R2) := ⟨hle, HL.out.2⟩
      generalize cmpN (md * hOf ys) R2 = cv at *
      clear hle
      go_wp2_with fail
      go_roundw
      case rel => exact ⟨md, h, hm2, hh, rfl, rfl, HL2.out, HE6.out⟩
      case measure => simp [intOf]; omega
     ·have hb7 := cmp_gt (show R2 < md * hOf ys by omega)
      have HL2 : Hid (Lies l md (hOf ys) R2) := ⟨HL.out.1, by omega⟩
      generalize cmpN (md * hOf ys) R2 = cv at *
      clear hle
      go_wp2_with fail
      go_roundw
      case rel => exact ⟨l, md, hm1, by omega, rfl, rfl, HL2.out, HE6.out⟩
      case measure => simp [intOf]; omega
    ·have hb6 : decide (1 < (h : Int) - (l : Int)) = false := by simp; omega
     obtain rfl : h = l + 1 := by omega
     have CT := LH (rtimes_any B m d ys l wr HBq.out (by omega) (by omega))
     have HTL : Hid ((halfOf (l * hOf ys)).length ≤ 1 + m) := times_len HB.out.2.1 HB.out.1 (by omega)
     go_wp2_with fail
     refine CT.out.mono ?_
     rintro e3 w5 ⟨A3, c3, rfl, h1, h2, h3, h4⟩
     have HE5 := LH (ET HEq.out h4)
     have hw5 : wr.heap.size ≤ w5.heap.size := h4.size
     have CS := LH (rsub_new (some ⟨g, 0, none⟩) _ cap _ A3 _ c3 _ w5 (HTq.out.below h4) h1 (by omega) (Nat.le_trans HTL.out (by omega)) (by rw [hOf_halfOf, hOf_halfOf]; exact HL.out.1))
     rw [hOf_halfOf, hOf_halfOf] at CS
     clear h1 h2 h3 h4
     go_wp2_with fail
     refine CS.out.mono ?_
     rintro e3 w6 ⟨A5, c5, rfl, h1, h2, h3, h4, h5⟩
     have HE6 := LH (ET HE5.out h4)
     have HO6 := LH (HO4.out.1.ext HE6.out)
     have HD6 : Hid (HalfAt (w6.setCell ⟨w.heap.size, k, none⟩ (.int .i64 (l : Int))) A5 (halfOf (R2 - l * hOf ys)).length (halfOf (R2 - l * hOf ys)) ∧ (halfOf (R2 - l * hOf ys)).length ≤ c5 ∧ c5 ≤ maxLen) := ⟨h1.put (fun ad e => by have := h5 ad e; omega), h2, h3⟩
     have HR6 : Hid (R2 - l * hOf ys < hOf ys) := by
      have h := HL.out
      have e : (l + 1) * hOf ys = l * hOf ys + hOf ys := Nat.succ_mul l (hOf ys)
      unfold Lies at h
      rw [e] at h
      unfold Hid
      omega
     have HV6 := LH (HST2.out l (R2 - l * hOf ys) (by have h := HL.out.1; rw [Nat.mul_comm]; omega))
     have e0 := HO6.out.cell (j := k) (by omega)
     have e1 := HO6.out.frozen k
     have HE7 := LH (ET HE4.out HE6.out)
     clear h1 h2 h3 h4 h5 CS CT
     generalize R2 - l * hOf ys = R6 at *
     go_wp2_with fail
     go_roundw
     case rel => exact ⟨k, R6, qs.set k l, A5, c5, by omega, by go_num, rfl, HR6.out, HD6.out, ⟨HO6.out.put k l, HO4.out.2.set k (by omega)⟩, HV6.out, Below.setCell HE7.out (p := ⟨w.heap.size, k, none⟩) (by simp) _⟩
     case measure => simp [intOf]
   )
 )
set_option maxRecDepth 100000 in
set_option maxHeartbeats 8000000 in
theorem rdiv_any (A : Option Addr) (n c : Nat) (xs : List Nat) (B : Option Addr) (m d : Nat) (ys : List Nat) (w : World) (ha : HalfAt w A n xs) (hb : HalfAt w B m ys) (hn : n ≤ 400000) (hm : m ≤ 400000) (h0 : 0 < hOf ys) (hz : halfOf (hOf ys) = ys) :
  Calls Tryz.prog 132 #[.slice A n c, .slice B m d] w (RetHH w (hOf xs / hOf ys) (hOf xs % hOf ys)) := by
 have HA := LH ha
 have HB := LH hb
 have HZ := LH hz
 have hm0 : 0 < m := by
  rw [← hb.1]
  rcases ys with _ | ⟨y, ys⟩
  ·simp [hOf] at h0
  ·simp
 clear ha hb hz
 by_cases hs : n ≤ 3 ∧ m ≤ 3
 ·obtain ⟨hs1, hs2⟩ := hs
  have hb1 : decide ((n : Int) ≤ 3) = true := by simp; omega
  have hb2 : decide ((m : Int) ≤ 3) = true := by simp; omega
  have hxl : hOf xs < 281474976710656 := small_lt HA.out.2.1 HA.out.1 (by omega)
  have hyl : hOf ys < 281474976710656 := small_lt HB.out.2.1 HB.out.1 (by omega)
  have CA := LH (fun w' (h : Ext w w') => rsmall_any A n c xs w' (HA.out.below h) (by omega))
  have CB := LH (fun w' (h : Ext w w') => rsmall_any B m d ys w' (HB.out.below h) (by omega))
  have hql : hOf xs / hOf ys ≤ hOf xs := Nat.div_le_self _ _
  have hrl : hOf xs % hOf ys < hOf ys := Nat.mod_lt _ h0
  have CQ := LH (fun w' => rback_any (hOf xs / hOf ys) w' (by omega))
  have CR := LH (fun w' => rback_any (hOf xs % hOf ys) w' (by omega))
  obtain ⟨q, hq⟩ : ∃ q, hOf xs / hOf ys = q := ⟨_, rfl⟩
  obtain ⟨r, hr⟩ : ∃ r, hOf xs % hOf ys = r := ⟨_, rfl⟩
  have hqi : ((hOf xs : Nat) : Int) / ((hOf ys : Nat) : Int) = (q : Int) := by rw [← hq]; simp
  have hri : ((hOf xs : Nat) : Int) % ((hOf ys : Nat) : Int) = (r : Int) := by rw [← hr]; simp
  rw [hq] at CQ ⊢ hql
  rw [hr] at CR ⊢ hrl
  clear hq hr
  generalize hOf xs = x at *
  generalize hOf ys = y at *
  have hy0 : ((y : Int) == 0) = false := by simp; omega
  go_enter Tryz.func132, Tryz.ntmps132
  go_wp2_with fail
  refine (CA.out w Ext.rfl').mono ?_
  rintro e w1 ⟨rfl, rfl⟩
  go_wp2_with fail
  refine (CB.out w Ext.rfl').mono ?_
  rintro e w1 ⟨rfl, rfl⟩
  go_wp2_with fail
  refine (CQ.out w).mono ?_
  rintro e w1 ⟨A1, c1, rfl, h1, h2, h3, h4⟩
  have HR : Hid (HalfAt w1 A1 (halfOf q).length (halfOf q) ∧ (halfOf q).length ≤ c1 ∧ c1 ≤ maxLen ∧ Ext w w1) := ⟨h1, h2, h3, h4⟩
  clear h1 h2 h3 h4
  go_wp2_with fail
  refine (CA.out w1 HR.out.2.2.2).mono ?_
  rintro e w1 ⟨rfl, rfl⟩
  go_wp2_with fail
  refine (CB.out _ HR.out.2.2.2).mono ?_
  rintro e w1 ⟨rfl, rfl⟩
  go_wp2_with fail
  refine (CR.out _).mono ?_
  rintro e w2 ⟨A2, c2, rfl, h1, h2, h3, h4⟩
  have HR2 : Hid (HalfAt w2 A2 (halfOf r).length (halfOf r) ∧ (halfOf r).length ≤ c2 ∧ c2 ≤ maxLen ∧ Ext w w2) := ⟨h1, h2, h3, ET HR.out.2.2.2 h4⟩
  have HR1 : Hid (HalfAt w2 A1 (halfOf q).length (halfOf q)) := HR.out.1.below h4
  clear h1 h2 h3 h4
  go_wp2_with fail
  go_ret2
  exact ⟨_, _, _, _, rfl, HR1.out, HR.out.2.1, HR.out.2.2.1, HR2.out⟩
 ·by_cases h1 : m = 1
  ·subst h1
   obtain ⟨y, rfl⟩ : ∃ y, ys = [y] := by
    rcases ys with _ | ⟨y, _ | ⟨z, ys⟩⟩
    ·exact absurd HB.out.1 (by simp)
    ·exact ⟨y, rfl⟩
    ·exact absurd HB.out.1 (by simp)
   have e : hOf [y] = y := by simp [hOf]
   rw [e] at h0 ⊢
   exact rdiv_one A n c xs B d y w HA.out HB.out hn (by omega) h0
  ·exact rdiv_long A n c xs B m d ys w HA.out HB.out hn hm (by omega) (by omega) h0 HZ.out
end Go.Proofs.YtjinpfnefeiooaaGreat
