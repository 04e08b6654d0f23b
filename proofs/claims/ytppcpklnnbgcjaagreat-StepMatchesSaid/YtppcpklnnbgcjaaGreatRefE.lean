/- Contracts of pylonref01.small and back. -/
import Derived.Test.YtppcpklnnbgcjaaGreatRefD
namespace Go.Proofs.YtppcpklnnbgcjaaGreat
open Go.RowKit

theorem hOf_drop_le (xs : List Nat) (k : Nat) : hOf (xs.drop k) ≤ hOf xs := by
  have h := hOf_splitP xs k
  have h1 : 1 * hOf (xs.drop k) ≤ 65536 ^ k * hOf (xs.drop k) := Nat.mul_le_mul_right _ (Nat.pow_pos (by omega))
  omega
theorem small_lt {xs : List Nat} {n : Nat} (h : Halves xs) (hl : xs.length = n) (hn : n ≤ 3) : hOf xs < 281474976710656 := by
  have h1 := hOf_lt h
  rw [hl] at h1
  have h2 : 65536 ^ n ≤ 65536 ^ 3 := Nat.pow_le_pow_right (by omega) hn
  have h3 : (65536 : Nat) ^ 3 = 281474976710656 := by decide
  omega
set_option maxRecDepth 100000 in
set_option maxHeartbeats 4000000 in
theorem rsmall_any (A : Option Addr) (n c : Nat) (xs : List Nat) (w : World) (h : HalfAt w A n xs) (hn : n ≤ 3) :
    Calls Tryz.prog 103 #[.slice A n c] w fun e w' => e = .returned (.int .i64 (hOf xs : Nat)) ∧ w = w' := by
  have HA := Lib.hid h
  have HB := Lib.hid (small_lt h.2.1 h.1 hn)
  clear h
  go_enter Tryz.func103, Tryz.ntmps103
  go_wp2_with fail
  go_loop [3, 4] (fun v i => ∃ k : Nat, k ≤ n ∧ v = .int .i64 (hOf (xs.drop k) : Nat) ∧ i = .int .i64 ((k : Int) - 1)) (fun _ i => (intOf i + 1).toNat)
  case atStart => exact ⟨n, by omega, by rw [drop_end (by rw [HA.out.1]; omega)]; rfl, rfl⟩
  case round =>
    obtain ⟨k, hk, rfl, rfl⟩ := hrel
    cases k with
    | zero =>
      have HE : Hid (hOf (xs.drop 0) = hOf xs) := by unfold Hid; rw [List.drop_zero]
      have hb0 : decide ((0 : Int) ≤ ((0 : Nat) : Int) - 1) = false := by simp
      generalize hOf (xs.drop 0) = v at *
      go_wp2_with fail
      go_ret
      exact ⟨ret_i (by rw [HE.out]), rfl⟩
    | succ k =>
      rw [show (((k + 1 : Nat)) : Int) - 1 = (k : Int) by omega]
      have hb0 : decide ((0 : Int) ≤ (k : Int)) = true := by simp
      have HD1 := Lib.hid (hOf_dropP xs k)
      have hle := hOf_drop_le xs k
      have hlt := HB.out
      obtain ⟨b, off, rfl, -, hc⟩ := HA.out.2.2 (by omega)
      have xc := hc k (by omega)
      have hz0 : (0 : Int) ≤ (k : Int) := by omega
      have hzn : (k : Int) < (n : Int) := by omega
      have hx := getD_lt HA.out.2.1 k
      clear hc
      obtain ⟨v, hv⟩ : ∃ v, hOf (xs.drop (k + 1)) = v := ⟨_, rfl⟩
      obtain ⟨u, hu⟩ : ∃ v, hOf (xs.drop k) = v := ⟨_, rfl⟩
      rw [hv] at HD1 ⊢
      rw [hu] at HD1 hle
      generalize xs.getD k 0 = x at *
      have hd := HD1.out
      have hvi : (v : Int) * 65536 + (x : Int) = (u : Int) := by omega
      have hv2 : v ≤ 4294967296 := by omega
      have hu2 : u < 281474976710656 := by omega
      have HU := Lib.hid hu
      clear hd hle hlt hv hu HD1
      go_wp2_with fail
      go_round
      case rel => exact ⟨k, by omega, by rw [HU.out], by go_num⟩
      case measure => simp [intOf]
theorem half3 (w : World) (a b c : Nat) (t : TypeId) (ha : a < 65536) (hb : b < 65536) (hc : c < 65536) : HalfAt (w.alloc (.cells #[.int .i64 (a : Int), .int .i64 (b : Int), .int .i64 (c : Int)] t)) (some ⟨w.heap.size, 0, none⟩) 3 [a, b, c] := by
  have hbk := Blk.new w t #[.int .i64 (a : Int), .int .i64 (b : Int), .int .i64 (c : Int)]
  refine ⟨rfl, fun y hy => ?_, fun _ => ⟨w.heap.size, 0, rfl, by simp, fun i hi => ?_⟩⟩
  · simp at hy; omega
  · rw [hbk.cell, Nat.zero_add]
    have : i = 0 ∨ i = 1 ∨ i = 2 := by omega
    rcases this with rfl | rfl | rfl <;> rfl
set_option maxRecDepth 100000 in
set_option maxHeartbeats 4000000 in
theorem rback_any (v : Nat) (w : World) (hv : v < 281474976710656) :
    Calls Tryz.prog 102 #[.int .i64 (v : Int)] w (RetH w v) := by
  obtain ⟨a, ha⟩ : ∃ u, v % 65536 = u := ⟨_, rfl⟩
  obtain ⟨r, hr⟩ : ∃ u, v / 65536 = u := ⟨_, rfl⟩
  obtain ⟨b, hb⟩ : ∃ u, r % 65536 = u := ⟨_, rfl⟩
  obtain ⟨c, hc⟩ : ∃ u, r / 65536 = u := ⟨_, rfl⟩
  have h1 : (v : Int) % 65536 = (a : Int) := by omega
  have h2 : (v : Int) / 65536 = (r : Int) := by omega
  have h3 : (r : Int) % 65536 = (b : Int) := by omega
  have h4 : (r : Int) / 65536 = (c : Int) := by omega
  have ha1 : a < 65536 := by omega
  have hb1 : b < 65536 := by omega
  have hc1 : c < 65536 := by omega
  have hr1 : r ≤ 4294967295 := by omega
  have HV : Hid (hOf [a, b, c] = v) := by
    unfold Hid
    simp only [hOf]
    omega
  clear ha hr hb hc
  go_enter Tryz.func102, Tryz.ntmps102
  go_wp2_with fail
  have hH := half3 w a b c 3 ha1 hb1 hc1
  have hE : Ext w (w.alloc (.cells #[.int .i64 (a : Int), .int .i64 (b : Int), .int .i64 (c : Int)] 3)) := Ext.al Ext.rfl' _
  generalize w.alloc (.cells #[.int .i64 (a : Int), .int .i64 (b : Int), .int .i64 (c : Int)] 3) = w1 at *
  have HH := Lib.hid hH
  have HE := Lib.hid hE
  clear hH hE
  refine (rtrim_any _ 3 3 [a, b, c] w1 HH.out (by omega) (by simp [maxLen])).mono ?_
  rintro e w2 ⟨rfl, rfl⟩
  have HT := Lib.hid HH.out.trim
  have hl := half_len_ge HH.out.2.1
  rw [HV.out] at HT hl ⊢
  simp only [List.length_cons, List.length_nil, Nat.zero_add, Nat.reduceAdd] at hl
  go_wp2_with fail
  go_ret
  exact ⟨_, _, rfl, HT.out, by omega, by simp [maxLen], HE.out⟩
end Go.Proofs.YtppcpklnnbgcjaaGreat
