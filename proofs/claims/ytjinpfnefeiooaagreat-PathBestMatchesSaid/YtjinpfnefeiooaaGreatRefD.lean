/- A part of the proof. -/
import Derived.Test.YtjinpfnefeiooaaGreatHalfs
namespace Go.Proofs.YtjinpfnefeiooaaGreat
open Go.RowKit

theorem hOf_dropP : ∀ (xs : List Nat) (k : Nat), hOf (xs.drop k) = xs.getD k 0 + 65536 * hOf (xs.drop (k + 1))
 | [], k => by simp [hOf]
 | x :: xs, 0 => by simp [hOf]
 | x :: xs, k + 1 => by simpa using hOf_dropP xs k
theorem hOf_splitP : ∀ (xs : List Nat) (k : Nat), hOf xs = hOf (xs.take k) + 65536 ^ k * hOf (xs.drop k)
 | xs, 0 => by simp [hOf]
 | xs, k + 1 => by
  rw [hOf_splitP xs k, hOf_take_succ, hOf_dropP xs k, Nat.mul_add, Nat.pow_succ, Nat.mul_assoc]
  omega
theorem hOf_take_lt {xs : List Nat} (h : Halves xs) : ∀ k, hOf (xs.take k) < 65536 ^ k
 | 0 => by simp [hOf]
 | k + 1 => by
  have ih := hOf_take_lt h k
  have hx : xs.getD k 0 < 65536 := by
   by_cases hk : k < xs.length
   ·exact h _ (by simp [List.getD, hk])
   ·simp [List.getD, hk]
  rw [hOf_take_succ, Nat.pow_succ]
  have h1 : 65536 ^ k * xs.getD k 0 ≤ 65536 ^ k * 65535 := Nat.mul_le_mul_left _ (by omega)
  have h2 : 65536 ^ k * 65536 = 65536 ^ k * 65535 + 65536 ^ k := by rw [show (65536 : Nat) = 65535 + 1 from rfl, Nat.mul_add, Nat.mul_one]
  omega
theorem hOf_less {a b : List Nat} (ha : Halves a) {k : Nat} (he : hOf (a.drop (k + 1)) = hOf (b.drop (k + 1))) (hd : a.getD k 0 < b.getD k 0) : hOf a < hOf b := by
 rw [hOf_splitP a (k + 1), hOf_splitP b (k + 1), he, hOf_take_succ, hOf_take_succ]
 have h1 := hOf_take_lt ha k
 have h2 : 65536 ^ k * (a.getD k 0 + 1) ≤ 65536 ^ k * b.getD k 0 := Nat.mul_le_mul_left _ hd
 rw [Nat.mul_add, Nat.mul_one] at h2
 omega
theorem dcarry {P v d c : Nat} (hv : v = d + 65536 * c) : P * d + P * 65536 * c = P * v := by rw [hv, Nat.mul_add, Nat.mul_assoc]
theorem add_step {a b ds : List Nat} {i c : Nat} (hl : ds.length = i) (h : hOf ds + 65536 ^ i * c = hOf (a.take i) + hOf (b.take i)) :
  hOf (ds ++ [(a.getD i 0 + b.getD i 0 + c) % 65536]) + 65536 ^ (i + 1) * ((a.getD i 0 + b.getD i 0 + c) / 65536) = hOf (a.take (i + 1)) + hOf (b.take (i + 1)) := by
 rw [hOf_snoc, hl, hOf_take_succ, hOf_take_succ, Nat.pow_succ]
 have h1 := dcarry (P := 65536 ^ i) (v := a.getD i 0 + b.getD i 0 + c) (d := (a.getD i 0 + b.getD i 0 + c) % 65536) (c := (a.getD i 0 + b.getD i 0 + c) / 65536) (Nat.mod_add_div _ _).symm
 rw [Nat.mul_add, Nat.mul_add] at h1
 omega
theorem times_step {b ds : List Nat} {n i c : Nat} (hl : ds.length = i) (h : hOf ds + 65536 ^ i * c = n * hOf (b.take i)) :
  hOf (ds ++ [(b.getD i 0 * n + c) % 65536]) + 65536 ^ (i + 1) * ((b.getD i 0 * n + c) / 65536) = n * hOf (b.take (i + 1)) := by
 rw [hOf_snoc, hl, hOf_take_succ, Nat.pow_succ, Nat.mul_add]
 have h1 := dcarry (P := 65536 ^ i) (v := b.getD i 0 * n + c) (d := (b.getD i 0 * n + c) % 65536) (c := (b.getD i 0 * n + c) / 65536) (Nat.mod_add_div _ _).symm
 rw [Nat.mul_add] at h1
 have h2 : n * (65536 ^ i * b.getD i 0) = 65536 ^ i * (b.getD i 0 * n) := by rw [Nat.mul_left_comm, Nat.mul_comm n]
 omega
theorem sub_step {a b ds : List Nat} {i l v l' : Nat} (hl : ds.length = i) (h : hOf ds + hOf (b.take i) = hOf (a.take i) + 65536 ^ i * l) (hv : a.getD i 0 + 65536 * l' = b.getD i 0 + l + v) :
  hOf (ds ++ [v]) + hOf (b.take (i + 1)) = hOf (a.take (i + 1)) + 65536 ^ (i + 1) * l' := by
 rw [hOf_snoc, hl, hOf_take_succ, hOf_take_succ, Nat.pow_succ, Nat.mul_assoc]
 have h1 : 65536 ^ i * (a.getD i 0 + 65536 * l') = 65536 ^ i * (b.getD i 0 + l + v) := by rw [hv]
 rw [Nat.mul_add, Nat.mul_add, Nat.mul_add] at h1
 omega
end Go.Proofs.YtjinpfnefeiooaaGreat
namespace Go.Proofs.YtjinpfnefeiooaaGreat
open Go.RowKit

def RetH (w : World) (m : Nat) (e : Ending) (w' : World) : Prop := ∃ A c, e = .returned (.slice A (halfOf m).length c) ∧ HalfAt w' A (halfOf m).length (halfOf m) ∧ (halfOf m).length ≤ c ∧ c ≤ maxLen ∧ Ext w w'
def RetHN (w : World) (m : Nat) (e : Ending) (w' : World) : Prop := ∃ A c, e = .returned (.slice A (halfOf m).length c) ∧ HalfAt w' A (halfOf m).length (halfOf m) ∧ (halfOf m).length ≤ c ∧ c ≤ maxLen ∧ Ext w w' ∧ ∀ ad, A = some ad → w.heap.size ≤ ad.block
theorem ret_i {a b : Int} (h : a = b) : Ending.returned (.int .i64 a) = .returned (.int .i64 b) := by rw [h]
theorem getD_lt {ds : List Nat} (h : Halves ds) (k : Nat) : ds.getD k 0 < 65536 := by
 by_cases hk : k < ds.length
 ·exact h _ (by simp [List.getD, hk])
 ·simp [List.getD, hk]
theorem halves_snoc {ds : List Nat} {x : Nat} (h : Halves ds) (hx : x < 65536) : Halves (ds ++ [x]) := fun y hy => by
 rcases List.mem_append.1 hy with hy | hy
 ·exact h y hy
 ·simp at hy; omega
theorem cmpN_ltP {a b : Nat} (h : a < b) : cmpN a b = -1 := by unfold cmpN; rw [if_pos h]
theorem cmpN_gtP {a b : Nat} (h : b < a) : cmpN a b = 1 := by unfold cmpN; rw [if_neg (by omega), if_pos h]
theorem cmpN_eqP {a b : Nat} (h : a = b) : cmpN a b = 0 := by unfold cmpN; rw [if_neg (by omega), if_neg (by omega)]
theorem drop_end {ds : List Nat} {k : Nat} (h : ds.length ≤ k) : hOf (ds.drop k) = 0 := by rw [List.drop_eq_nil_of_le h]; rfl
set_option maxRecDepth 100000 in
set_option maxHeartbeats 4000000 in
theorem rcmp_any (A : Option Addr) (n c : Nat) (xs : List Nat) (B : Option Addr) (m d : Nat) (ys : List Nat) (w : World) (ha : HalfAt w A n xs) (hb : HalfAt w B m ys) (hn : n ≤ 1073741824) (hm : m ≤ 1073741824) :
  Calls Tryz.prog 121 #[.slice A n c, .slice B m d] w fun e w' => e = .returned (.int .i64 (cmpN (hOf xs) (hOf ys))) ∧ Ext w w' := by
 have HA := LH ha
 have HB := LH hb
 clear ha hb
 by_cases hnm : n < m
 ·go_enter Tryz.func121, Tryz.ntmps121
  have hnm1 : decide ((n : Int) < (m : Int)) = true := by simp; omega
  go_wp2_with fail
  go_loop [5] (fun i => ∃ k : Nat, k ≤ m ∧ i = .int .i64 ((k : Int) - 1) ∧ Hid (hOf (xs.drop k) = hOf (ys.drop k))) (fun i => (intOf i + 1).toNat)
  case atStart => exact ⟨m, by omega, rfl, by unfold Hid; rw [drop_end (by rw [HA.out.1]; omega), drop_end (by rw [HB.out.1]; omega)]⟩
  case round =>
   obtain ⟨k, hk, rfl, HI⟩ := hrel
   cases k with
   | zero =>
    have HE : Hid (cmpN (hOf xs) (hOf ys) = 0) := cmpN_eqP (by simpa using HI.out)
    have hb0 : decide ((0 : Int) ≤ ((0 : Nat) : Int) - 1) = false := by simp
    go_wp2_with fail
    go_ret
    exact ⟨ret_i HE.out.symm, Ext.rfl'⟩
   | succ k =>
    rw [show (((k + 1 : Nat)) : Int) - 1 = (k : Int) by omega]
    have hb0 : decide ((0 : Int) ≤ (k : Int)) = true := by simp
    have HD1 := LH (hOf_dropP xs k)
    have HD2 := LH (hOf_dropP ys k)
    have HL1 := LH (fun h => hOf_less HA.out.2.1 HI.out (k := k) h)
    have HL2 := LH (fun h => hOf_less HB.out.2.1 HI.out.symm (k := k) h)
    have CA := at_any A n c xs k w HA.out (by omega)
    have CB := at_any B m d ys k w HB.out (by omega)
    generalize xs.getD k 0 = x at *
    generalize ys.getD k 0 = y at *
    have KA := LH CA
    have KB := LH CB
    clear CA CB
    by_cases h1 : x < y
    ·have hc1 : decide ((x : Int) < (y : Int)) = true := by simp; omega
     have hc2 : decide (x < y) = true := by simp; omega
     have HE : Hid (cmpN (hOf xs) (hOf ys) = -1) := cmpN_ltP (HL1.out h1)
     go_wp2_with fail
     refine KA.out.mono ?_
     rintro e w1 ⟨rfl, rfl⟩
     go_wp2_with fail
     refine KB.out.mono ?_
     rintro e w1 ⟨rfl, rfl⟩
     go_wp2_with fail
     go_ret
     exact ⟨ret_i HE.out.symm, Ext.rfl'⟩
    have hc1 : decide ((x : Int) < (y : Int)) = false := by simp; omega
    have hc2 : decide (x < y) = false := by simp; omega
    by_cases h2 : y < x
    ·have hc3 : decide ((y : Int) < (x : Int)) = true := by simp; omega
     have hc4 : decide (y < x) = true := by simp; omega
     have HE : Hid (cmpN (hOf xs) (hOf ys) = 1) := cmpN_gtP (HL2.out h2)
     go_wp2_with fail
     refine KA.out.mono ?_
     rintro e w1 ⟨rfl, rfl⟩
     go_wp2_with fail
     refine KB.out.mono ?_
     rintro e w1 ⟨rfl, rfl⟩
     go_wp2_with fail
     refine KA.out.mono ?_
     rintro e w1 ⟨rfl, rfl⟩
     go_wp2_with fail
     refine KB.out.mono ?_
     rintro e w1 ⟨rfl, rfl⟩
     go_wp2_with fail
     go_ret
     exact ⟨ret_i HE.out.symm, Ext.rfl'⟩
    ·have hc3 : decide ((y : Int) < (x : Int)) = false := by simp; omega
     have hc4 : decide (y < x) = false := by simp; omega
     have HN : Hid (hOf (xs.drop k) = hOf (ys.drop k)) := by
      unfold Hid
      rw [HD1.out, HD2.out, HI.out]
      omega
     go_wp2_with fail
     refine KA.out.mono ?_
     rintro e w1 ⟨rfl, rfl⟩
     go_wp2_with fail
     refine KB.out.mono ?_
     rintro e w1 ⟨rfl, rfl⟩
     go_wp2_with fail
     refine KA.out.mono ?_
     rintro e w1 ⟨rfl, rfl⟩
     go_wp2_with fail
     refine KB.out.mono ?_
     rintro e w1 ⟨rfl, rfl⟩
     go_wp2_with fail
     go_round
     case rel => exact ⟨k, by omega, by go_num, HN.out⟩
     case measure => simp [intOf]
 ·go_enter Tryz.func121, Tryz.ntmps121
  have hnm1 : decide ((n : Int) < (m : Int)) = false := by simp; omega
  go_wp2_with fail
  go_loop [5] (fun i => ∃ k : Nat, k ≤ n ∧ i = .int .i64 ((k : Int) - 1) ∧ Hid (hOf (xs.drop k) = hOf (ys.drop k))) (fun i => (intOf i + 1).toNat)
  case atStart => exact ⟨n, by omega, rfl, by unfold Hid; rw [drop_end (by rw [HA.out.1]; omega), drop_end (by rw [HB.out.1]; omega)]⟩
  case round =>
   obtain ⟨k, hk, rfl, HI⟩ := hrel
   cases k with
   | zero =>
    have HE : Hid (cmpN (hOf xs) (hOf ys) = 0) := cmpN_eqP (by simpa using HI.out)
    have hb0 : decide ((0 : Int) ≤ ((0 : Nat) : Int) - 1) = false := by simp
    go_wp2_with fail
    go_ret
    exact ⟨ret_i HE.out.symm, Ext.rfl'⟩
   | succ k =>
    rw [show (((k + 1 : Nat)) : Int) - 1 = (k : Int) by omega]
    have hb0 : decide ((0 : Int) ≤ (k : Int)) = true := by simp
    have HD1 := LH (hOf_dropP xs k)
    have HD2 := LH (hOf_dropP ys k)
    have HL1 := LH (fun h => hOf_less HA.out.2.1 HI.out (k := k) h)
    have HL2 := LH (fun h => hOf_less HB.out.2.1 HI.out.symm (k := k) h)
    have CA := at_any A n c xs k w HA.out (by omega)
    have CB := at_any B m d ys k w HB.out (by omega)
    generalize xs.getD k 0 = x at *
    generalize ys.getD k 0 = y at *
    have KA := LH CA
    have KB := LH CB
    clear CA CB
    by_cases h1 : x < y
    ·have hc1 : decide ((x : Int) < (y : Int)) = true := by simp; omega
     have hc2 : decide (x < y) = true := by simp; omega
     have HE : Hid (cmpN (hOf xs) (hOf ys) = -1) := cmpN_ltP (HL1.out h1)
     go_wp2_with fail
     refine KA.out.mono ?_
     rintro e w1 ⟨rfl, rfl⟩
     go_wp2_with fail
     refine KB.out.mono ?_
     rintro e w1 ⟨rfl, rfl⟩
     go_wp2_with fail
     go_ret
     exact ⟨ret_i HE.out.symm, Ext.rfl'⟩
    have hc1 : decide ((x : Int) < (y : Int)) = false := by simp; omega
    have hc2 : decide (x < y) = false := by simp; omega
    by_cases h2 : y < x
    ·have hc3 : decide ((y : Int) < (x : Int)) = true := by simp; omega
     have hc4 : decide (y < x) = true := by simp; omega
     have HE : Hid (cmpN (hOf xs) (hOf ys) = 1) := cmpN_gtP (HL2.out h2)
     go_wp2_with fail
     refine KA.out.mono ?_
     rintro e w1 ⟨rfl, rfl⟩
     go_wp2_with fail
     refine KB.out.mono ?_
     rintro e w1 ⟨rfl, rfl⟩
     go_wp2_with fail
     refine KA.out.mono ?_
     rintro e w1 ⟨rfl, rfl⟩
     go_wp2_with fail
     refine KB.out.mono ?_
     rintro e w1 ⟨rfl, rfl⟩
     go_wp2_with fail
     go_ret
     exact ⟨ret_i HE.out.symm, Ext.rfl'⟩
    ·have hc3 : decide ((y : Int) < (x : Int)) = false := by simp; omega
     have hc4 : decide (y < x) = false := by simp; omega
     have HN : Hid (hOf (xs.drop k) = hOf (ys.drop k)) := by
      unfold Hid
      rw [HD1.out, HD2.out, HI.out]
      omega
     go_wp2_with fail
     refine KA.out.mono ?_
     rintro e w1 ⟨rfl, rfl⟩
     go_wp2_with fail
     refine KB.out.mono ?_
     rintro e w1 ⟨rfl, rfl⟩
     go_wp2_with fail
     refine KA.out.mono ?_
     rintro e w1 ⟨rfl, rfl⟩
     go_wp2_with fail
     refine KB.out.mono ?_
     rintro e w1 ⟨rfl, rfl⟩
     go_wp2_with fail
     go_round
     case rel => exact ⟨k, by omega, by go_num, HN.out⟩
     case measure => simp [intOf]
set_option maxRecDepth 100000 in
set_option maxHeartbeats 8000000 in
theorem radd_any (A : Option Addr) (n c : Nat) (xs : List Nat) (B : Option Addr) (m d : Nat) (ys : List Nat) (w : World) (ha : HalfAt w A n xs) (hb : HalfAt w B m ys) (hn : n ≤ 1073741824) (hm : m ≤ 1073741824) :
  Calls Tryz.prog 120 #[.slice A n c, .slice B m d] w (RetH w (hOf xs + hOf ys)) := by
 have HA := LH ha
 have HB := LH hb
 clear ha hb
 obtain ⟨i0, hi, hz0, hz1, hz2⟩ := info_parts info_int
 have HI0 := LH (And.intro hi (And.intro hz0 (And.intro hz1 hz2)))
 clear hi hz0 hz1 hz2
 obtain ⟨M, hM1, hM2, hM3⟩ : ∃ M, n ≤ M ∧ m ≤ M ∧ M ≤ 1073741824 := ⟨max n m, by omega, by omega, by omega⟩
 go_enter Tryz.func120, Tryz.ntmps120
 go_wp2_with fail
 go_loopw [5, 6, 7] (fun v cr i wr => ∃ (k cy : Nat) (ds : List Nat), k ≤ M + 1 ∧ (k = M + 1 → cy = 0) ∧ cy ≤ 1 ∧ cr = .int .i64 cy ∧ i = .int .i64 k ∧ Hid (ds.length = k ∧ Halves ds ∧ hOf ds + 65536 ^ k * cy = hOf (xs.take k) + hOf (ys.take k)) ∧ Hid (Ext w wr ∧ wr.ownsRow w.heap.size 3 1 v k (i64s ds))) (fun _ _ i _ => M + 2 - (intOf i).toNat)
 case atStart => exact ⟨0, 0, [], by omega, fun _ => rfl, by omega, rfl, rfl, ⟨rfl, Halves.nil, by simp [hOf]⟩, Ext.rfl', own_nil _ _ _ _⟩
 case round =>
  obtain ⟨k, cy, ds, hk, hk2, hcy, rfl, rfl, HD, HI⟩ := hrel
  have HE := LH HI.out.1
  have HO := LH HI.out.2
  clear HI
  by_cases hgo : k < n ∨ k < m ∨ 0 < cy
  ·have hkM : k ≤ M := by
    rcases hgo with h | h | h
    ·omega
    ·omega
    ·exact Nat.le_of_lt_succ (Nat.lt_of_le_of_ne hk (fun e => by have := hk2 e; omega))
   have HK : Hid (k = M → xs.getD k 0 = 0 ∧ ys.getD k 0 = 0) := fun e => by
    have h1 := HA.out.1
    have h2 := HB.out.1
    exact ⟨by simp [List.getD, show ¬ k < xs.length by omega], by simp [List.getD, show ¬ k < ys.length by omega]⟩
   have HS := LH (add_step HD.out.1 HD.out.2.2)
   have hx := getD_lt HA.out.2.1 k
   have hy := getD_lt HB.out.2.1 k
   have CA := at_any A n c xs k wr (HA.out.below HE.out) (by omega)
   have CB := at_any B m d ys k wr (HB.out.below HE.out) (by omega)
   generalize xs.getD k 0 = x at *
   generalize ys.getD k 0 = y at *
   have KA := LH CA
   have KB := LH CB
   clear CA CB
   obtain ⟨v, hv⟩ : ∃ v, x + y + cy = v := ⟨_, rfl⟩
   obtain ⟨dv, hdv⟩ : ∃ u, v % 65536 = u := ⟨_, rfl⟩
   obtain ⟨cv, hcv⟩ : ∃ u, v / 65536 = u := ⟨_, rfl⟩
   have hvi : (x : Int) + (y : Int) + (cy : Int) = (v : Int) := by omega
   have hdi : (v : Int) % 65536 = (dv : Int) := by omega
   have hci : (v : Int) / 65536 = (cv : Int) := by omega
   have hv2 : v ≤ 131071 := by omega
   have hcv1 : cv ≤ 1 := by omega
   have HCV : Hid (k + 1 = M + 1 → cv = 0) := fun e => by
    have := HK.out (by omega)
    omega
   rw [hv, hdv, hcv] at HS
   have hdl : dv < 65536 := by omega
   have HD2 : Hid ((ds ++ [dv]).length = k + 1 ∧ Halves (ds ++ [dv]) ∧ hOf (ds ++ [dv]) + 65536 ^ (k + 1) * cv = hOf (xs.take (k + 1)) + hOf (ys.take (k + 1))) := ⟨by simp [HD.out.1], halves_snoc HD.out.2.1 hdl, HS.out⟩
   clear hv hdv hcv HK HS hk2
   have hEa : Ext wr (wr.alloc (.cells #[.int .i64 (dv : Int)] 3)) := Ext.al Ext.rfl' _
   have HE3 := LH (ET HE.out hEa)
   have HO3 := LH (own_keep (w' := wr.alloc (.cells #[.int .i64 (dv : Int)] 3)) HO.out (fun g hg => Below.heap_alloc wr _ g (own_lt HO.out hg).1))
   have HNW := LH (World.news_of_block (cs := #[.int .i64 (dv : Int)]) (t := 3) (fr := (0, 0)) (heap_alloc_new wr (.cells #[.int .i64 (dv : Int)] 3)))
   have hws : w.heap.size ≤ (wr.alloc (.cells #[.int .i64 (dv : Int)] 3)).heap.size := HE3.out.size
   clear hEa
   by_cases h1 : k < n
   ·have hb1 : decide ((k : Int) < (n : Int)) = true := by simp; omega
    have hb2 : decide (k < n) = true := by simp; omega
    go_wp2_with fail
    refine KA.out.mono ?_
    rintro e w1 ⟨rfl, rfl⟩
    go_wp2_with fail
    refine KB.out.mono ?_
    rintro e w1 ⟨rfl, rfl⟩
    go_wp2_with (at_builtin; refine wpList_append_atW _ rfl (.tmp 34) (.tmp 37) 120 rfl w.heap.size 3 i0 _ 1 8 Tryz.underlying120 HI0.out.1 HI0.out.2.1 HI0.out.2.2.1 HI0.out.2.2.2 rfl (by omega) u5 k _ rfl HO3.out ⟨wr.heap.size, 0, none⟩ 1 1 [.int .i64 (dv : Int)] rfl rfl HNW.out (by simp [Value.oneCell']) (.inr (by omega)) (by simp [maxLen]; omega) (by omega) hws ?_; intro g cap w4 hown hgr hgg)
    have HO4 : Hid (Ext w w4 ∧ w4.ownsRow w.heap.size 3 1 (.slice (some ⟨g, 0, none⟩) (k + 1) cap) (k + 1) (i64s (ds ++ [dv]))) := by
     refine ⟨ext_grownW HE3.out hgr (fun g hg => (own_lt HO3.out hg).2), ?_⟩
     rw [i64s_append]
     exact hown
    clear hown hgr hgg
    go_roundw
    case rel => exact ⟨k + 1, cv, ds ++ [dv], by omega, HCV.out, hcv1, rfl, by go_num, HD2.out, HO4.out⟩
    case measure => simp [intOf]; omega
   have hb1 : decide ((k : Int) < (n : Int)) = false := by simp; omega
   have hb2 : decide (k < n) = false := by simp; omega
   by_cases h2 : k < m
   ·have hb3 : decide ((k : Int) < (m : Int)) = true := by simp; omega
    have hb4 : decide (k < m) = true := by simp; omega
    go_wp2_with fail
    refine KA.out.mono ?_
    rintro e w1 ⟨rfl, rfl⟩
    go_wp2_with fail
    refine KB.out.mono ?_
    rintro e w1 ⟨rfl, rfl⟩
    go_wp2_with (at_builtin; refine wpList_append_atW _ rfl (.tmp 34) (.tmp 37) 120 rfl w.heap.size 3 i0 _ 1 8 Tryz.underlying120 HI0.out.1 HI0.out.2.1 HI0.out.2.2.1 HI0.out.2.2.2 rfl (by omega) u5 k _ rfl HO3.out ⟨wr.heap.size, 0, none⟩ 1 1 [.int .i64 (dv : Int)] rfl rfl HNW.out (by simp [Value.oneCell']) (.inr (by omega)) (by simp [maxLen]; omega) (by omega) hws ?_; intro g cap w4 hown hgr hgg)
    have HO4 : Hid (Ext w w4 ∧ w4.ownsRow w.heap.size 3 1 (.slice (some ⟨g, 0, none⟩) (k + 1) cap) (k + 1) (i64s (ds ++ [dv]))) := by
     refine ⟨ext_grownW HE3.out hgr (fun g hg => (own_lt HO3.out hg).2), ?_⟩
     rw [i64s_append]
     exact hown
    clear hown hgr hgg
    go_roundw
    case rel => exact ⟨k + 1, cv, ds ++ [dv], by omega, HCV.out, hcv1, rfl, by go_num, HD2.out, HO4.out⟩
    case measure => simp [intOf]; omega
   have hb3 : decide ((k : Int) < (m : Int)) = false := by simp; omega
   have hb4 : decide (k < m) = false := by simp; omega
   have hb5 : decide ((0 : Int) < (cy : Int)) = true := by simp; omega
   have hb6 : decide (0 < cy) = true := by simp; omega
   go_wp2_with fail
   refine KA.out.mono ?_
   rintro e w1 ⟨rfl, rfl⟩
   go_wp2_with fail
   refine KB.out.mono ?_
   rintro e w1 ⟨rfl, rfl⟩
   go_wp2_with (at_builtin; refine wpList_append_atW _ rfl (.tmp 34) (.tmp 37) 120 rfl w.heap.size 3 i0 _ 1 8 Tryz.underlying120 HI0.out.1 HI0.out.2.1 HI0.out.2.2.1 HI0.out.2.2.2 rfl (by omega) u5 k _ rfl HO3.out ⟨wr.heap.size, 0, none⟩ 1 1 [.int .i64 (dv : Int)] rfl rfl HNW.out (by simp [Value.oneCell']) (.inr (by omega)) (by simp [maxLen]; omega) (by omega) hws ?_; intro g cap w4 hown hgr hgg)
   have HO4 : Hid (Ext w w4 ∧ w4.ownsRow w.heap.size 3 1 (.slice (some ⟨g, 0, none⟩) (k + 1) cap) (k + 1) (i64s (ds ++ [dv]))) := by
    refine ⟨ext_grownW HE3.out hgr (fun g hg => (own_lt HO3.out hg).2), ?_⟩
    rw [i64s_append]
    exact hown
   clear hown hgr hgg
   go_roundw
   case rel => exact ⟨k + 1, cv, ds ++ [dv], by omega, HCV.out, hcv1, rfl, by go_num, HD2.out, HO4.out⟩
   case measure => simp [intOf]; omega
  ·have hb1 : decide ((k : Int) < (n : Int)) = false := by simp; omega
   have hb2 : decide (k < n) = false := by simp; omega
   have hb3 : decide ((k : Int) < (m : Int)) = false := by simp; omega
   have hb4 : decide (k < m) = false := by simp; omega
   have hc0 : cy = 0 := by omega
   subst hc0
   obtain ⟨A', c', rfl, h1, h2, h3⟩ := own_half HO.out HD.out.2.1
   have HV : Hid (hOf ds = hOf xs + hOf ys) := by
    have h := HD.out.2.2
    rw [Nat.mul_zero, Nat.add_zero, List.take_of_length_le (by rw [HA.out.1]; omega), List.take_of_length_le (by rw [HB.out.1]; omega)] at h
    exact h
   have HH := LH h3
   clear h3
   go_wp2_with fail
   refine (rtrim_any A' k c' ds wr HH.out h1 h2).mono ?_
   rintro e w1 ⟨rfl, rfl⟩
   have HT := LH HH.out.trim
   have hl := half_len_ge HH.out.2.1
   rw [HH.out.1] at hl
   rw [HV.out] at HT hl ⊢
   go_wp2_with fail
   go_ret
   exact ⟨_, _, rfl, HT.out, by omega, h2, HE.out⟩
set_option maxRecDepth 100000 in
set_option maxHeartbeats 8000000 in
theorem rtimes_any (A : Option Addr) (n c : Nat) (xs : List Nat) (N : Nat) (w : World) (ha : HalfAt w A n xs) (hn : n ≤ 1073741824) (hN : N ≤ 65535) :
  Calls Tryz.prog 138 #[.slice A n c, .int .i64 (N : Int)] w (RetH w (N * hOf xs)) := by
 have HA := LH ha
 clear ha
 obtain ⟨i0, hi, hz0, hz1, hz2⟩ := info_parts info_int
 have HI0 := LH (And.intro hi (And.intro hz0 (And.intro hz1 hz2)))
 clear hi hz0 hz1 hz2
 go_enter Tryz.func138, Tryz.ntmps138
 go_wp2_with fail
 go_loopw [5, 6, 7] (fun v cr i wr => ∃ (k cy : Nat) (ds : List Nat), k ≤ n + 1 ∧ (k = n + 1 → cy = 0) ∧ cy ≤ 65535 ∧ cr = .int .i64 cy ∧ i = .int .i64 k ∧ Hid (ds.length = k ∧ Halves ds ∧ hOf ds + 65536 ^ k * cy = N * hOf (xs.take k)) ∧ Hid (Ext w wr ∧ wr.ownsRow w.heap.size 3 1 v k (i64s ds))) (fun _ _ i _ => n + 2 - (intOf i).toNat)
 case atStart => exact ⟨0, 0, [], by omega, fun _ => rfl, by omega, rfl, rfl, ⟨rfl, Halves.nil, by simp [hOf]⟩, Ext.rfl', own_nil _ _ _ _⟩
 case round =>
  obtain ⟨k, cy, ds, hk, hk2, hcy, rfl, rfl, HD, HI⟩ := hrel
  have HE := LH HI.out.1
  have HO := LH HI.out.2
  clear HI
  by_cases hgo : k < n ∨ 0 < cy
  ·have hkM : k ≤ n := by
    rcases hgo with h | h
    ·omega
    ·exact Nat.le_of_lt_succ (Nat.lt_of_le_of_ne hk (fun e => by have := hk2 e; omega))
   have HK : Hid (k = n → xs.getD k 0 = 0) := fun e => by
    have h1 := HA.out.1
    simp [List.getD, show ¬ k < xs.length by omega]
   have HS := LH (times_step HD.out.1 HD.out.2.2)
   have hx := getD_lt HA.out.2.1 k
   have CA := at_any A n c xs k wr (HA.out.below HE.out) (by omega)
   generalize xs.getD k 0 = x at *
   have KA := LH CA
   clear CA
   obtain ⟨pv, hpv⟩ : ∃ v, x * N = v := ⟨_, rfl⟩
   have hpl : pv ≤ 65535 * 65535 := by rw [← hpv]; exact Nat.mul_le_mul (by omega) hN
   obtain ⟨v, hv⟩ : ∃ v, pv + cy = v := ⟨_, rfl⟩
   obtain ⟨dv, hdv⟩ : ∃ u, v % 65536 = u := ⟨_, rfl⟩
   obtain ⟨cv, hcv⟩ : ∃ u, v / 65536 = u := ⟨_, rfl⟩
   have hpi : (x : Int) * (N : Int) = (pv : Int) := by rw [← hpv]; simp
   have hvi : (pv : Int) + (cy : Int) = (v : Int) := by omega
   have hdi : (v : Int) % 65536 = (dv : Int) := by omega
   have hci : (v : Int) / 65536 = (cv : Int) := by omega
   have hcv1 : cv ≤ 65535 := by omega
   have hvb : v ≤ 4294967295 := by omega
   have HCV : Hid (k + 1 = n + 1 → cv = 0) := fun e => by
    have h0 := HK.out (by omega)
    rw [h0, Nat.zero_mul] at hpv
    omega
   rw [hpv, hv, hdv, hcv] at HS
   have hdl : dv < 65536 := by omega
   have HD2 : Hid ((ds ++ [dv]).length = k + 1 ∧ Halves (ds ++ [dv]) ∧ hOf (ds ++ [dv]) + 65536 ^ (k + 1) * cv = N * hOf (xs.take (k + 1))) := ⟨by simp [HD.out.1], halves_snoc HD.out.2.1 hdl, HS.out⟩
   clear hv hdv hcv hpv HK HS hk2
   have hEa : Ext wr (wr.alloc (.cells #[.int .i64 (dv : Int)] 3)) := Ext.al Ext.rfl' _
   have HE3 := LH (ET HE.out hEa)
   have HO3 := LH (own_keep (w' := wr.alloc (.cells #[.int .i64 (dv : Int)] 3)) HO.out (fun g hg => Below.heap_alloc wr _ g (own_lt HO.out hg).1))
   have HNW := LH (World.news_of_block (cs := #[.int .i64 (dv : Int)]) (t := 3) (fr := (0, 0)) (heap_alloc_new wr (.cells #[.int .i64 (dv : Int)] 3)))
   have hws : w.heap.size ≤ (wr.alloc (.cells #[.int .i64 (dv : Int)] 3)).heap.size := HE3.out.size
   clear hEa
   by_cases h1 : k < n
   ·have hb1 : decide ((k : Int) < (n : Int)) = true := by simp; omega
    have hb2 : decide (k < n) = true := by simp; omega
    go_wp2_with fail
    refine KA.out.mono ?_
    rintro e w1 ⟨rfl, rfl⟩
    go_wp2_with (at_builtin; refine wpList_append_atW _ rfl (.tmp 26) (.tmp 29) 120 rfl w.heap.size 3 i0 _ 1 8 Tryz.underlying120 HI0.out.1 HI0.out.2.1 HI0.out.2.2.1 HI0.out.2.2.2 rfl (by omega) u5 k _ rfl HO3.out ⟨wr.heap.size, 0, none⟩ 1 1 [.int .i64 (dv : Int)] rfl rfl HNW.out (by simp [Value.oneCell']) (.inr (by omega)) (by simp [maxLen]; omega) (by omega) hws ?_; intro g cap w4 hown hgr hgg)
    have HO4 : Hid (Ext w w4 ∧ w4.ownsRow w.heap.size 3 1 (.slice (some ⟨g, 0, none⟩) (k + 1) cap) (k + 1) (i64s (ds ++ [dv]))) := by
     refine ⟨ext_grownW HE3.out hgr (fun g hg => (own_lt HO3.out hg).2), ?_⟩
     rw [i64s_append]
     exact hown
    clear hown hgr hgg
    go_roundw
    case rel => exact ⟨k + 1, cv, ds ++ [dv], by omega, HCV.out, hcv1, rfl, by go_num, HD2.out, HO4.out⟩
    case measure => simp [intOf]; omega
   have hb1 : decide ((k : Int) < (n : Int)) = false := by simp; omega
   have hb2 : decide (k < n) = false := by simp; omega
   have hb5 : decide ((0 : Int) < (cy : Int)) = true := by simp; omega
   have hb6 : decide (0 < cy) = true := by simp; omega
   go_wp2_with fail
   refine KA.out.mono ?_
   rintro e w1 ⟨rfl, rfl⟩
   go_wp2_with (at_builtin; refine wpList_append_atW _ rfl (.tmp 26) (.tmp 29) 120 rfl w.heap.size 3 i0 _ 1 8 Tryz.underlying120 HI0.out.1 HI0.out.2.1 HI0.out.2.2.1 HI0.out.2.2.2 rfl (by omega) u5 k _ rfl HO3.out ⟨wr.heap.size, 0, none⟩ 1 1 [.int .i64 (dv : Int)] rfl rfl HNW.out (by simp [Value.oneCell']) (.inr (by omega)) (by simp [maxLen]; omega) (by omega) hws ?_; intro g cap w4 hown hgr hgg)
   have HO4 : Hid (Ext w w4 ∧ w4.ownsRow w.heap.size 3 1 (.slice (some ⟨g, 0, none⟩) (k + 1) cap) (k + 1) (i64s (ds ++ [dv]))) := by
    refine ⟨ext_grownW HE3.out hgr (fun g hg => (own_lt HO3.out hg).2), ?_⟩
    rw [i64s_append]
    exact hown
   clear hown hgr hgg
   go_roundw
   case rel => exact ⟨k + 1, cv, ds ++ [dv], by omega, HCV.out, hcv1, rfl, by go_num, HD2.out, HO4.out⟩
   case measure => simp [intOf]; omega
  ·have hb1 : decide ((k : Int) < (n : Int)) = false := by simp; omega
   have hb2 : decide (k < n) = false := by simp; omega
   have hc0 : cy = 0 := by omega
   subst hc0
   obtain ⟨A', c', rfl, h1, h2, h3⟩ := own_half HO.out HD.out.2.1
   have HV : Hid (hOf ds = N * hOf xs) := by
    have h := HD.out.2.2
    rw [Nat.mul_zero, Nat.add_zero, List.take_of_length_le (by rw [HA.out.1]; omega)] at h
    exact h
   have HH := LH h3
   clear h3
   go_wp2_with fail
   refine (rtrim_any A' k c' ds wr HH.out h1 h2).mono ?_
   rintro e w1 ⟨rfl, rfl⟩
   have HT := LH HH.out.trim
   have hl := half_len_ge HH.out.2.1
   rw [HH.out.1] at hl
   rw [HV.out] at HT hl ⊢
   go_wp2_with fail
   go_ret
   exact ⟨_, _, rfl, HT.out, by omega, h2, HE.out⟩
theorem sub_end {xs ys ds : List Nat} {n l : Nat} (hx : Halves xs) (hxl : xs.length = n) (hds : Halves ds) (hdl : ds.length = n) (hl : l ≤ 1) (hle : hOf ys ≤ hOf xs) (h : hOf ds + hOf (ys.take n) = hOf (xs.take n) + 65536 ^ n * l) : hOf ds = hOf xs - hOf ys := by
 have h1 := hOf_lt hx
 rw [hxl] at h1
 have h2 := hOf_lt hds
 rw [hdl] at h2
 have h3 := hOf_splitP ys n
 rw [show xs.take n = xs from List.take_of_length_le (by omega)] at h
 have h4 : hOf (ys.drop n) = 0 := by
  by_cases e : hOf (ys.drop n) = 0
  ·exact e
  ·exfalso
   have : 65536 ^ n * 1 ≤ 65536 ^ n * hOf (ys.drop n) := Nat.mul_le_mul_left _ (by omega)
   omega
 rw [h4, Nat.mul_zero, Nat.add_zero] at h3
 have h5 : l = 0 ∨ l = 1 := by omega
 rcases h5 with rfl | rfl
 ·rw [Nat.mul_zero] at h; omega
 ·rw [Nat.mul_one] at h; omega
set_option maxRecDepth 100000 in
set_option maxHeartbeats 8000000 in
theorem rsub_new (A : Option Addr) (n c : Nat) (xs : List Nat) (B : Option Addr) (m d : Nat) (ys : List Nat) (w : World) (ha : HalfAt w A n xs) (hb : HalfAt w B m ys) (hn : n ≤ 1073741824) (_hm : m ≤ 1073741824) (hle : hOf ys ≤ hOf xs) :
  Calls Tryz.prog 122 #[.slice A n c, .slice B m d] w (RetHN w (hOf xs - hOf ys)) := by
 have HA := LH ha
 have HB := LH hb
 have HLE := LH hle
 clear ha hb hle
 obtain ⟨i0, hi, hz0, hz1, hz2⟩ := info_parts info_int
 have HI0 := LH (And.intro hi (And.intro hz0 (And.intro hz1 hz2)))
 clear hi hz0 hz1 hz2
 go_enter Tryz.func122, Tryz.ntmps122
 go_wp2_with fail
 go_loopw [5, 6, 7] (fun v cr i wr => ∃ (k cy : Nat) (ds : List Nat), k ≤ n ∧ cy ≤ 1 ∧ cr = .int .i64 cy ∧ i = .int .i64 k ∧ Hid (ds.length = k ∧ Halves ds ∧ hOf ds + hOf (ys.take k) = hOf (xs.take k) + 65536 ^ k * cy) ∧ Hid (Ext w wr ∧ wr.ownsRow w.heap.size 3 1 v k (i64s ds))) (fun _ _ i _ => n - (intOf i).toNat)
 case atStart => exact ⟨0, 0, [], by omega, by omega, rfl, rfl, ⟨rfl, Halves.nil, by simp [hOf]⟩, Ext.rfl', own_nil _ _ _ _⟩
 case round =>
  obtain ⟨k, cy, ds, hk, hcy, rfl, rfl, HD, HI⟩ := hrel
  have HE := LH HI.out.1
  have HO := LH HI.out.2
  clear HI
  by_cases hgo : k < n
  ·have hb1 : decide ((k : Int) < (n : Int)) = true := by simp; omega
   have hb2 : decide (k < n) = true := by simp; omega
   have HS := LH (fun v l' => sub_step (a := xs) (b := ys) (v := v) (l' := l') HD.out.1 HD.out.2.2)
   have hx := getD_lt HA.out.2.1 k
   have hy := getD_lt HB.out.2.1 k
   have CA := at_any A n c xs k wr (HA.out.below HE.out) (by omega)
   have CB := at_any B m d ys k wr (HB.out.below HE.out) (by omega)
   generalize xs.getD k 0 = x at *
   generalize ys.getD k 0 = y at *
   have KA := LH CA
   have KB := LH CB
   clear CA CB
   by_cases hneg : x < y + cy
   ·obtain ⟨dv, hdv⟩ : ∃ u, x + 65536 - y - cy = u := ⟨_, rfl⟩
    have hd1 : (x : Int) - (y : Int) - (cy : Int) + 65536 = (dv : Int) := by omega
    have hdl : dv < 65536 := by omega
    have hng : decide ((x : Int) - (y : Int) - (cy : Int) < 0) = true := by simp; omega
    have HD2 : Hid ((ds ++ [dv]).length = k + 1 ∧ Halves (ds ++ [dv]) ∧ hOf (ds ++ [dv]) + hOf (ys.take (k + 1)) = hOf (xs.take (k + 1)) + 65536 ^ (k + 1) * 1) := ⟨by simp [HD.out.1], halves_snoc HD.out.2.1 hdl, HS.out dv 1 (by omega)⟩
    clear hdv HS
    have hEa : Ext wr (wr.alloc (.cells #[.int .i64 (dv : Int)] 3)) := Ext.al Ext.rfl' _
    have HE3 := LH (ET HE.out hEa)
    have HO3 := LH (own_keep (w' := wr.alloc (.cells #[.int .i64 (dv : Int)] 3)) HO.out (fun g hg => Below.heap_alloc wr _ g (own_lt HO.out hg).1))
    have HNW := LH (World.news_of_block (cs := #[.int .i64 (dv : Int)]) (t := 3) (fr := (0, 0)) (heap_alloc_new wr (.cells #[.int .i64 (dv : Int)] 3)))
    have hws : w.heap.size ≤ (wr.alloc (.cells #[.int .i64 (dv : Int)] 3)).heap.size := HE3.out.size
    clear hEa
    go_wp2_with fail
    refine KA.out.mono ?_
    rintro e w1 ⟨rfl, rfl⟩
    go_wp2_with fail
    refine KB.out.mono ?_
    rintro e w1 ⟨rfl, rfl⟩
    go_wp2_with (at_builtin; refine wpList_append_atW _ rfl (.tmp 28) (.tmp 30) 120 rfl w.heap.size 3 i0 _ 1 8 Tryz.underlying120 HI0.out.1 HI0.out.2.1 HI0.out.2.2.1 HI0.out.2.2.2 rfl (by omega) u5 k _ rfl HO3.out ⟨wr.heap.size, 0, none⟩ 1 1 [.int .i64 (dv : Int)] rfl rfl HNW.out (by simp [Value.oneCell']) (.inr (by omega)) (by simp [maxLen]; omega) (by omega) hws ?_; intro g cap w4 hown hgr hgg)
    have HO4 : Hid (Ext w w4 ∧ w4.ownsRow w.heap.size 3 1 (.slice (some ⟨g, 0, none⟩) (k + 1) cap) (k + 1) (i64s (ds ++ [dv]))) := by
     refine ⟨ext_grownW HE3.out hgr (fun g hg => (own_lt HO3.out hg).2), ?_⟩
     rw [i64s_append]
     exact hown
    clear hown hgr hgg
    go_roundw
    case rel => exact ⟨k + 1, 1, ds ++ [dv], by omega, by omega, rfl, by go_num, HD2.out, HO4.out⟩
    case measure => simp [intOf]; omega
   ·obtain ⟨dv, hdv⟩ : ∃ u, x - y - cy = u := ⟨_, rfl⟩
    have hd1 : (x : Int) - (y : Int) - (cy : Int) = (dv : Int) := by omega
    have hdl : dv < 65536 := by omega
    have hng : decide ((dv : Int) < 0) = false := by simp
    have HD2 : Hid ((ds ++ [dv]).length = k + 1 ∧ Halves (ds ++ [dv]) ∧ hOf (ds ++ [dv]) + hOf (ys.take (k + 1)) = hOf (xs.take (k + 1)) + 65536 ^ (k + 1) * 0) := ⟨by simp [HD.out.1], halves_snoc HD.out.2.1 hdl, HS.out dv 0 (by omega)⟩
    clear hdv HS
    have hEa : Ext wr (wr.alloc (.cells #[.int .i64 (dv : Int)] 3)) := Ext.al Ext.rfl' _
    have HE3 := LH (ET HE.out hEa)
    have HO3 := LH (own_keep (w' := wr.alloc (.cells #[.int .i64 (dv : Int)] 3)) HO.out (fun g hg => Below.heap_alloc wr _ g (own_lt HO.out hg).1))
    have HNW := LH (World.news_of_block (cs := #[.int .i64 (dv : Int)]) (t := 3) (fr := (0, 0)) (heap_alloc_new wr (.cells #[.int .i64 (dv : Int)] 3)))
    have hws : w.heap.size ≤ (wr.alloc (.cells #[.int .i64 (dv : Int)] 3)).heap.size := HE3.out.size
    clear hEa
    go_wp2_with fail
    refine KA.out.mono ?_
    rintro e w1 ⟨rfl, rfl⟩
    go_wp2_with fail
    refine KB.out.mono ?_
    rintro e w1 ⟨rfl, rfl⟩
    go_wp2_with (at_builtin; refine wpList_append_atW _ rfl (.tmp 28) (.tmp 30) 120 rfl w.heap.size 3 i0 _ 1 8 Tryz.underlying120 HI0.out.1 HI0.out.2.1 HI0.out.2.2.1 HI0.out.2.2.2 rfl (by omega) u5 k _ rfl HO3.out ⟨wr.heap.size, 0, none⟩ 1 1 [.int .i64 (dv : Int)] rfl rfl HNW.out (by simp [Value.oneCell']) (.inr (by omega)) (by simp [maxLen]; omega) (by omega) hws ?_; intro g cap w4 hown hgr hgg)
    have HO4 : Hid (Ext w w4 ∧ w4.ownsRow w.heap.size 3 1 (.slice (some ⟨g, 0, none⟩) (k + 1) cap) (k + 1) (i64s (ds ++ [dv]))) := by
     refine ⟨ext_grownW HE3.out hgr (fun g hg => (own_lt HO3.out hg).2), ?_⟩
     rw [i64s_append]
     exact hown
    clear hown hgr hgg
    go_roundw
    case rel => exact ⟨k + 1, 0, ds ++ [dv], by omega, by omega, rfl, by go_num, HD2.out, HO4.out⟩
    case measure => simp [intOf]; omega
  ·have hb1 : decide ((k : Int) < (n : Int)) = false := by simp; omega
   have hb2 : decide (k < n) = false := by simp; omega
   obtain rfl : k = n := by omega
   obtain ⟨A', c', rfl, h1, h2, h3⟩ := own_half HO.out HD.out.2.1
   have HV : Hid (hOf ds = hOf xs - hOf ys) := sub_end HA.out.2.1 HA.out.1 HD.out.2.1 HD.out.1 hcy HLE.out HD.out.2.2
   have HH := LH h3
   have HF : Hid (∀ ad, A' = some ad → w.heap.size ≤ ad.block) := fun ad e => by subst e; exact (own_lt HO.out (by simp [Value.ownBlock])).2
   clear h3
   go_wp2_with fail
   refine (rtrim_any A' k c' ds wr HH.out h1 h2).mono ?_
   rintro e w1 ⟨rfl, rfl⟩
   have HT := LH HH.out.trim
   have hl := half_len_ge HH.out.2.1
   rw [HH.out.1] at hl
   rw [HV.out] at HT hl ⊢
   go_wp2_with fail
   go_ret
   exact ⟨_, _, rfl, HT.out, by omega, h2, HE.out, HF.out⟩
theorem rsub_any (A : Option Addr) (n c : Nat) (xs : List Nat) (B : Option Addr) (m d : Nat) (ys : List Nat) (w : World) (ha : HalfAt w A n xs) (hb : HalfAt w B m ys) (hn : n ≤ 1073741824) (hm : m ≤ 1073741824) (hle : hOf ys ≤ hOf xs) :
  Calls Tryz.prog 122 #[.slice A n c, .slice B m d] w (RetH w (hOf xs - hOf ys)) := by
 refine (rsub_new A n c xs B m d ys w ha hb hn hm hle).mono ?_
 rintro e w' ⟨A', c', h1, h2, h3, h4, h5, -⟩
 exact ⟨A', c', h1, h2, h3, h4, h5⟩
end Go.Proofs.YtjinpfnefeiooaaGreat
