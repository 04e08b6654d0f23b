/- A part of the proof. -/
import Derived.Test.YtjinpfnefeiooaaGreatRows
import Derived.Laws.BitsAllLaws
import Derived.Test.YtjinpfnefeiooaaGreatNums
import Derived.Test.YtjinpfnefeiooaaGreatLexes
namespace Go.Proofs.YtjinpfnefeiooaaGreat
open Go.RowKit

def WordsAt (w : World) (A : Option Addr) (n : Nat) (xs : List Nat) : Prop :=
 xs.length = n ∧ Words xs ∧ (0 < n → ∃ b off, A = some ⟨b, off, none⟩ ∧ b < w.heap.size ∧ ∀ i, i < n → w.cell? ⟨b, off + i, none⟩ = some (.int .u32 (xs.getD i 0 : Nat)))
theorem WordsAt.below {w w' : World} {A : Option Addr} {n : Nat} {xs : List Nat} (h : WordsAt w A n xs) (hb : Ext w w') : WordsAt w' A n xs := by
 refine ⟨h.1, h.2.1, fun hn => ?_⟩
 obtain ⟨b, off, ha, hlt, hc⟩ := h.2.2 hn
 exact ⟨b, off, ha, Nat.lt_of_lt_of_le hlt hb.size, fun i hi => Ext.cellOf hb (hc i hi)⟩
theorem getD_take {xs : List Nat} {k i : Nat} (hi : i < k) : (xs.take k).getD i 0 = xs.getD i 0 := by
 simp [List.getD, hi]
theorem WordsAt.take {w : World} {A : Option Addr} {n : Nat} {xs : List Nat} (h : WordsAt w A n xs) {k : Nat} (hk : k ≤ n) : WordsAt w A k (xs.take k) := by
 refine ⟨by rw [List.length_take, h.1]; omega, h.2.1.take k, fun hk0 => ?_⟩
 obtain ⟨b, off, ha, hlt, hc⟩ := h.2.2 (by omega)
 exact ⟨b, off, ha, hlt, fun i hi => by rw [getD_take hi]; exact hc i (by omega)⟩
theorem WordsAt.nil (w : World) (A : Option Addr) : WordsAt w A 0 [] := ⟨rfl, Words.nil, fun h => absurd h (by omega)⟩
theorem WordsAt.trim {w : World} {A : Option Addr} {n : Nat} {xs : List Nat} (h : WordsAt w A n xs) : WordsAt w A (wordsOf (natOf xs)).length (wordsOf (natOf xs)) := by
 have hl := words_len_ge h.2.1
 have h1 := h.take (k := (wordsOf (natOf xs)).length) (by rw [← h.1]; exact hl)
 have e : xs.take (wordsOf (natOf xs)).length = wordsOf (natOf xs) := by
  conv => lhs; arg 2; rw [words_split h.2.1]
  simp
 rwa [e] at h1
def lenV : Value → Nat
 | .slice _ n _ => n
 | _ => 0
theorem natOf_take_succ (xs : List Nat) (k : Nat) : natOf (xs.take (k + 1)) = natOf (xs.take k) + 4294967296 ^ k * xs.getD k 0 := by
 rcases Nat.lt_or_ge k xs.length with h | h
 ·rw [List.take_succ_eq_append_getElem h, natOf_snoc, List.length_take, Nat.min_eq_left (by omega)]
  simp [List.getD, h]
 ·rw [List.take_of_length_le h, List.take_of_length_le (by omega)]
  simp [List.getD, h]
theorem trim_end {xs : List Nat} (hw : Words xs) {k : Nat} (hk : k + 1 ≤ xs.length) (hv : natOf (xs.take (k + 1)) = natOf xs) (hx : xs.getD k 0 ≠ 0) : k + 1 = (wordsOf (natOf xs)).length := by
 rw [← hv, wordsOf_natOf (hw.take _)]
 ·rw [List.length_take]; omega
 ·intro hne
  have : (xs.take (k + 1)).getLast hne = xs.getD k 0 := by
   rw [List.getLast_eq_getElem]
   have hl : (xs.take (k + 1)).length = k + 1 := by rw [List.length_take]; omega
   simp [hl, List.getElem_take, List.getD, show k < xs.length by omega]
  rw [this]; exact hx
set_option maxHeartbeats 800000 in
theorem trim_any (A : Option Addr) (n c : Nat) (xs : List Nat) (w : World) (h : WordsAt w A n xs) (hn : n ≤ c) (hc : c ≤ maxLen) :
  Calls Tryz.prog 109 #[.slice A n c] w fun e w' => e = .returned (.slice A (wordsOf (natOf xs)).length c) ∧ w = w' := by
 unfold maxLen at hc
 have HL := LH h.1
 have HW := h.2.1
 have HC := LH h.2.2
 clear h
 go_enter Tryz.func109, Tryz.ntmps109
 go_wp2_with fail
 go_loop [0] (fun v => ∃ k : Nat, k ≤ n ∧ v = .slice A k c ∧ Hid (natOf (xs.take k) = natOf xs)) (fun v => lenV v)
 case atStart => exact ⟨n, Nat.le_refl _, rfl, by unfold Hid; rw [List.take_of_length_le (by rw [HL.out]; exact Nat.le_refl _)]⟩
 case round =>
  obtain ⟨k, hk, rfl, HV⟩ := hrel
  by_cases h0 : k = 0
  ·subst h0
   have HE : Hid (0 = (wordsOf (natOf xs)).length) := by
    have := HV.out
    simp [natOf] at this
    unfold Hid
    rw [← this, wordsOf_zero]
    rfl
   go_wp2_with fail
   go_ret
   rw [← HE.out]
   exact ⟨rfl, rfl⟩
  ·obtain ⟨j, rfl⟩ : ∃ j, k = j + 1 := ⟨k - 1, by omega⟩
   clear h0
   obtain ⟨b, off, rfl, hb, hcell⟩ := HC.out (by omega)
   have c1 := hcell j (by omega)
   clear hcell
   have hjc : j + 1 ≤ c := by omega
   have hb1 : decide (0 < ((j + 1 : Nat) : Int)) = true := by simp
   have HS := LH (natOf_take_succ xs j)
   have HT := LH (fun h => trim_end HW (k := j) (by rw [HL.out]; omega) HV.out h)
   generalize xs.getD j 0 = x at *
   by_cases hx : x = 0
   ·have hxb : ((x : Int) == 0) = true := by simp [hx]
    have HX := LH hx
    clear hx
    go_wp2_with fail
    go_round
    case rel => exact ⟨j, by omega, by simp, by have h1 := HS.out; have h2 := HV.out; rw [HX.out] at h1; unfold Hid; rw [← h2, h1]; simp⟩
    case measure => simp [lenV]
   ·have hxb : ((x : Int) == 0) = false := by simp [hx]
    have HE := LH (HT.out hx)
    clear hx
    go_wp2_with fail
    go_ret
    rw [← HE.out]
    exact ⟨rfl, rfl⟩
end Go.Proofs.YtjinpfnefeiooaaGreat
namespace Go.Proofs.YtjinpfnefeiooaaGreat
open Go.RowKit

theorem ret_u64 {a b : Int} (h : a = b) : Ending.returned (.int .u64 a) = .returned (.int .u64 b) := by rw [h]
theorem ret_i64 {a b : Int} (h : a = b) : Ending.returned (.int .i64 a) = .returned (.int .i64 b) := by rw [h]
theorem or_words (x y : Nat) (hx : x < 4294967296) (hy : y < 4294967296) : bits .or .u64 (x : Int) ((y : Int) * 4294967296) = ((x + 4294967296 * y : Nat) : Int) := by
 rw [show ((y : Int) * 4294967296) = ((4294967296 * y : Nat) : Int) by omega, u64_or_nat _ _ (by omega) (by omega), Nat.or_comm, nat_join 32 (4294967296 * y) x (by rw [show (2 : Nat) ^ 32 = 4294967296 from rfl]; omega) (by rw [show (2 : Nat) ^ 32 = 4294967296 from rfl]; exact hx)]
 congr 1
 omega
set_option maxHeartbeats 800000 in
theorem low_any (A : Option Addr) (n c : Nat) (xs : List Nat) (w : World) (h : WordsAt w A n xs) (hn : n ≤ 2) :
  Calls Tryz.prog 110 #[.slice A n c] w fun e w' => e = .returned (.int .u64 (natOf xs : Nat)) ∧ ∃ k, w' = w.drewN k := by
 obtain ⟨hl, hw, hc⟩ := h
 have h3 : n = 0 ∨ n = 1 ∨ n = 2 := by omega
 rcases h3 with rfl | rfl | rfl
 ·obtain rfl : xs = [] := List.eq_nil_of_length_eq_zero hl
  go_enter Tryz.func110, Tryz.ntmps110
  go_wp2_with fail
  go_ret
  exact ⟨rfl, 0, rfl⟩
 ·obtain ⟨x, rfl⟩ : ∃ x, xs = [x] := by
   match xs, hl with
   | [x], _ => exact ⟨x, rfl⟩
  have hx := hw.head
  obtain ⟨b, off, rfl, hb, hcell⟩ := hc (by omega)
  have c1 := hcell 0 (by omega)
  simp only [List.getD_cons_zero, Nat.add_zero] at c1
  clear hcell hc hw hl
  go_enter Tryz.func110, Tryz.ntmps110
  go_wp2_with fail
  go_ret
  exact ⟨ret_u64 (by simp [natOf]), 0, rfl⟩
 ·obtain ⟨x, y, rfl⟩ : ∃ x y, xs = [x, y] := by
   match xs, hl with
   | [x, y], _ => exact ⟨x, y, rfl⟩
  have hx := hw.head
  have hy := hw.tail.head
  obtain ⟨b, off, rfl, hb, hcell⟩ := hc (by omega)
  have c1 := hcell 0 (by omega)
  have c2 := hcell 1 (by omega)
  simp only [List.getD_cons_zero, List.getD_cons_succ, Nat.add_zero] at c1 c2
  have HO := LH (or_words x y hx hy)
  clear hcell hc hw hl
  go_enter Tryz.func110, Tryz.ntmps110
  go_wp2_with fail
  go_quiet (fail)
  go_wp2_with fail
  go_ret
  exact ⟨ret_u64 (by simp only [natOf]; rw [HO.out]; simp), _, rfl⟩
def sgn (b : Bool) (m : Nat) : Int := if b then -(m : Int) else m
def Fresh (w : World) (B : Nat) (A : Option Addr) : Prop := ∀ ad, A = some ad → ∃ b off, ad = ⟨b, off, none⟩ ∧ B ≤ b ∧ b < w.heap.size ∧ ∀ i, w.frozen? ⟨b, off + i, none⟩ = false
def ZIs (w : World) (b : Bool) (A : Option Addr) (n c : Nat) (z : Int) : Prop := ∃ xs, WordsAt w A n xs ∧ n ≤ c ∧ c ≤ maxLen ∧ z = sgn b (natOf xs)
def ZCan (w : World) (B : Nat) (b : Bool) (A : Option Addr) (n c : Nat) (z : Int) : Prop := b = decide (z < 0) ∧ WordsAt w A n (wordsOf z.natAbs) ∧ n ≤ c ∧ c ≤ maxLen ∧ Fresh w B A
theorem Fresh.ext {w w' : World} {B : Nat} {A : Option Addr} (h : Fresh w B A) (hb : Ext w w') : Fresh w' B A := fun ad ha => by
 obtain ⟨b, off, e, h1, h2, h3⟩ := h ad ha
 exact ⟨b, off, e, h1, Nat.lt_of_lt_of_le h2 hb.size, fun i => (hb.frozen (p := ⟨b, off + i, none⟩) h2).trans (h3 i)⟩
theorem Fresh.base {w : World} {B B' : Nat} {A : Option Addr} (h : Fresh w B A) (hb : B' ≤ B) : Fresh w B' A := fun ad ha => by
 obtain ⟨b, off, e, h1, h2, h3⟩ := h ad ha
 exact ⟨b, off, e, by omega, h2, h3⟩
theorem ZIs.ext {w w' : World} {b : Bool} {A : Option Addr} {n c : Nat} {z : Int} (h : ZIs w b A n c z) (hb : Ext w w') : ZIs w' b A n c z := by
 obtain ⟨xs, h1, h2⟩ := h
 exact ⟨xs, h1.below hb, h2⟩
theorem ZCan.ext {w w' : World} {B : Nat} {b : Bool} {A : Option Addr} {n c : Nat} {z : Int} (h : ZCan w B b A n c z) (hb : Ext w w') : ZCan w' B b A n c z := ⟨h.1, h.2.1.below hb, h.2.2.1, h.2.2.2.1, h.2.2.2.2.ext hb⟩
theorem ZCan.base {w : World} {B B' : Nat} {b : Bool} {A : Option Addr} {n c : Nat} {z : Int} (h : ZCan w B b A n c z) (hb : B' ≤ B) : ZCan w B' b A n c z := ⟨h.1, h.2.1, h.2.2.1, h.2.2.2.1, h.2.2.2.2.base hb⟩
theorem sgn_natAbs (z : Int) : sgn (decide (z < 0)) z.natAbs = z := by
 unfold sgn
 by_cases h : z < 0
 ·simp [h]; omega
 ·simp [h]; omega
theorem ZCan.is {w : World} {B : Nat} {b : Bool} {A : Option Addr} {n c : Nat} {z : Int} (h : ZCan w B b A n c z) : ZIs w b A n c z := by
 obtain ⟨rfl, h2, h3, h4, _⟩ := h
 exact ⟨_, h2, h3, h4, by rw [natOf_wordsOf, sgn_natAbs]⟩
theorem sgn_abs (b : Bool) (m : Nat) : (sgn b m).natAbs = m := by unfold sgn; cases b <;> simp
theorem sgn_neg (b : Bool) {m : Nat} (h : m ≠ 0) : decide (sgn b m < 0) = b := by
 unfold sgn
 cases b
 ·simp
 ·simp; omega
theorem sgn_zero (b : Bool) : sgn b 0 = 0 := by unfold sgn; cases b <;> rfl
def RetZ (w : World) (z : Int) (e : Ending) (w' : World) : Prop := ∃ b A n c, e = .returned (.agg #[.bool b, .slice A n c]) ∧ ZCan w' w.heap.size b A n c z ∧ Ext w w'
theorem zcan_zero (w : World) (B : Nat) : ZCan w B false none 0 0 0 := ⟨rfl, by rw [show (0 : Int).natAbs = 0 from rfl, wordsOf_zero]; exact WordsAt.nil w none, Nat.le_refl _, by omega, fun ad h => by cases h⟩
set_option maxHeartbeats 800000 in
theorem build_any (b : Bool) (A : Option Addr) (n c : Nat) (xs : List Nat) (w : World) (B : Nat) (h : WordsAt w A n xs) (hn : n ≤ c) (hc : c ≤ maxLen) (hf : Fresh w B A) :
  Calls Tryz.prog 124 #[.bool b, .slice A n c] w fun e w' => ∃ b' A' n' c', e = .returned (.agg #[.bool b', .slice A' n' c']) ∧ ZCan w' B b' A' n' c' (sgn b (natOf xs)) ∧ Ext w w' := by
 go_enter Tryz.func124, Tryz.ntmps124
 go_wp2_with fail
 refine (trim_any A n c xs _ (h.below (Ext.al Ext.rfl' _)) hn hc).mono ?_
 rintro e w1 ⟨rfl, rfl⟩
 have HT := LH h.trim
 have HLE : Hid ((wordsOf (natOf xs)).length ≤ c) := by have := words_len_ge h.2.1; unfold Hid; rw [h.1] at this; omega
 by_cases h0 : natOf xs = 0
 ·have hl : (wordsOf (natOf xs)).length = 0 := by rw [h0, wordsOf_zero]; rfl
  have H0 := LH h0
  rw [hl]
  clear hl h0
  go_wp2_with fail
  refine bodyPost_ret (v := .agg #[.bool false, .slice none 0 0]) (by simp [results, Tryz.results124, go_sem]) rfl ⟨_, _, _, _, rfl, ?_, Ext.al Ext.rfl' _⟩
  rw [H0.out, sgn_zero]
  exact zcan_zero _ _
 ·have hl : (wordsOf (natOf xs)).length ≠ 0 := fun e => h0 (wordsOf_eq_nil.1 e)
  have HZ : Hid (decide (sgn b (natOf xs) < 0) = b ∧ (sgn b (natOf xs)).natAbs = natOf xs) := ⟨sgn_neg b h0, sgn_abs b _⟩
  clear h0
  obtain ⟨k, hk⟩ : ∃ k, (wordsOf (natOf xs)).length = k := ⟨_, rfl⟩
  rw [hk] at hl HT HLE ⊢
  have hb : ((k : Int) == 0) = false := by simp; omega
  clear hl hk
  go_wp2_with fail
  refine bodyPost_ret (v := .agg #[.bool b, .slice A k c]) (by simp [results, Tryz.results124, go_sem]) rfl ⟨_, _, _, _, rfl, ?_, Ext.al Ext.rfl' _⟩
  refine ⟨HZ.out.1.symm, ?_, HLE.out, hc, hf.ext (Ext.al Ext.rfl' _)⟩
  rw [HZ.out.2]
  exact HT.out.below (Ext.al Ext.rfl' _)
end Go.Proofs.YtjinpfnefeiooaaGreat
namespace Go.Proofs.YtjinpfnefeiooaaGreat
open Go.RowKit

theorem wordsOf_one {m : Nat} (h0 : m ≠ 0) (h : m < 4294967296) : wordsOf m = [m] := by
 rw [wordsOf_pos h0, Nat.mod_eq_of_lt h, Nat.div_eq_of_lt h, wordsOf_zero]
theorem wordsOf_two {m : Nat} (h0 : 4294967296 ≤ m) (h : m < 18446744073709551616) : wordsOf m = [m % 4294967296, m / 4294967296] := by
 rw [wordsOf_pos (by omega), wordsOf_one (by omega) (by omega)]
theorem words1 (w : World) (g x : Nat) (hg : w.heap.size = g) (hx : x < 4294967296) : WordsAt (w.alloc (.cells #[.int .u32 (x : Int)] 44)) (some ⟨g, 0, none⟩) 1 [x] := by
 subst hg
 refine ⟨rfl, Words.cons hx Words.nil, fun _ => ⟨_, _, rfl, by simp, fun i hi => ?_⟩⟩
 obtain rfl : i = 0 := by omega
 simp [go_sem]
theorem words2 (w : World) (g x y : Nat) (hg : w.heap.size = g) (hx : x < 4294967296) (hy : y < 4294967296) : WordsAt (w.alloc (.cells #[.int .u32 (x : Int), .int .u32 (y : Int)] 44)) (some ⟨g, 0, none⟩) 2 [x, y] := by
 subst hg
 refine ⟨rfl, Words.cons hx (Words.cons hy Words.nil), fun _ => ⟨_, _, rfl, by simp, fun i hi => ?_⟩⟩
 obtain h | h : i = 0 ∨ i = 1 := by omega
 all_goals subst h; simp [go_sem]
theorem fresh_new (w : World) (B g : Nat) (hg : w.heap.size = g) (hB : B ≤ w.heap.size) (cs : Array Value) (t : TypeId) : Fresh (w.alloc (.cells cs t)) B (some ⟨g, 0, none⟩) := fun ad h => by
 subst hg
 injection h with h
 subst h
 exact ⟨_, _, rfl, hB, by simp, fun i => by simp [go_sem]⟩
set_option maxHeartbeats 800000 in
theorem small_any (b : Bool) (z : Int) (m : Nat) (hz : z = m) (w : World) (hm : m < 18446744073709551616) :
  Calls Tryz.prog 76 #[.bool b, .int .u64 z] w (RetZ w (sgn b m)) := by
 subst hz
 by_cases h0 : m = 0
 ·subst h0
  go_enter Tryz.func76, Tryz.ntmps76
  go_wp2_with fail
  refine bodyPost_ret (v := .agg #[.bool false, .slice none 0 0]) (by simp [results, Tryz.results76, go_sem]) rfl ⟨_, _, _, _, rfl, ?_, Ext.al Ext.rfl' _⟩
  rw [sgn_zero]
  exact zcan_zero _ _
 ·have hb0 : ((m : Int) == 0) = false := by simp; omega
  by_cases h1 : m < 4294967296
  ·have HW : Hid (decide (sgn b m < 0) = b ∧ (sgn b m).natAbs = m ∧ wordsOf m = [m]) := ⟨sgn_neg b h0, sgn_abs b m, wordsOf_one h0 h1⟩
   have hb1 : ((m : Int) / 4294967296 == 0) = true := by simp; omega
   have hb2 : (m : Int) % 4294967296 = m := by omega
   clear h0
   go_enter Tryz.func76, Tryz.ntmps76
   go_wp2_with fail
   refine bodyPost_ret (v := .agg #[.bool b, .slice (some ⟨w.heap.size + 1, 0, none⟩) 1 1]) (by simp [results, Tryz.results76, go_sem]) rfl ⟨_, _, _, _, rfl, ⟨HW.out.1.symm, ?_, Nat.le_refl _, by simp [maxLen], ?_⟩, ?_⟩
   ·rw [HW.out.2.1, HW.out.2.2]
    exact words1 _ _ m (by simp) h1
   ·exact fresh_new _ _ _ (by simp) (by simp) _ _
   ·exact Ext.al (Ext.al Ext.rfl' _) _
  ·have HW : Hid (decide (sgn b m < 0) = b ∧ (sgn b m).natAbs = m ∧ wordsOf m = [m % 4294967296, m / 4294967296]) := ⟨sgn_neg b h0, sgn_abs b m, wordsOf_two (by omega) hm⟩
   have hb1 : ((m : Int) / 4294967296 == 0) = false := by simp; omega
   clear h0
   go_enter Tryz.func76, Tryz.ntmps76
   go_wp2_with fail
   refine bodyPost_ret (v := .agg #[.bool b, .slice (some ⟨w.heap.size + 1, 0, none⟩) 2 2]) (by simp [results, Tryz.results76, go_sem]) rfl ⟨_, _, _, _, rfl, ⟨HW.out.1.symm, ?_, Nat.le_refl _, by simp [maxLen], ?_⟩, ?_⟩
   ·rw [HW.out.2.1, HW.out.2.2]
    have := words2 (w.alloc (Obj.cells #[Value.bool b, Value.slice (some ⟨w.heap.size + 1, 0, none⟩) 2 2] 27)) (w.heap.size + 1) (m % 4294967296) (m / 4294967296) (by simp) (by omega) (by omega)
    simpa using this
   ·exact fresh_new _ _ _ (by simp) (by simp) _ _
   ·exact Ext.al (Ext.al Ext.rfl' _) _
theorem u64_wrap (n : Int) : IntKind.u64.wrap n = n % 18446744073709551616 := by simp [IntKind.wrap, IntKind.bits, IntKind.signed]
theorem ZCan.put {w : World} {B : Nat} {b : Bool} {A : Option Addr} {n c : Nat} {z : Int} (h : ZCan w B b A n c z) {p : Addr} (hp : p.block < B) (v : Value) : ZCan (w.setCell p v) B b A n c z := by
 obtain ⟨h1, ⟨h2, h3, h4⟩, h5, h6, h7⟩ := h
 have hsz : (w.setCell p v).heap.size = w.heap.size := by simp [World.setCell]
 refine ⟨h1, ⟨h2, h3, fun hn => ?_⟩, h5, h6, fun ad ha => ?_⟩
 ·obtain ⟨b', off, e, hlt, hc⟩ := h4 hn
  obtain ⟨b2, off2, e2, hB, _, _⟩ := h7 _ e
  injection e2 with e2 e3
  subst e2
  refine ⟨b', off, e, by rw [hsz]; exact hlt, fun i hi => ?_⟩
  rw [← hc i hi]
  exact World.cell?_of_block (Below.heap_setCell w p v b' (by omega))
 ·obtain ⟨b', off, e, hB, hlt, hf⟩ := h7 ad ha
  refine ⟨b', off, e, hB, by rw [hsz]; exact hlt, fun i => ?_⟩
  rw [← hf i]
  exact World.frozen?_of_block (Below.heap_setCell w p v b' (by omega))
theorem retZ_put {w w1 : World} {o : Obj} {b : Bool} {A : Option Addr} {n c : Nat} {z : Int} (hz : ZCan w1 (w.heap.size + 1) b A n c z) (hb : Ext (w.alloc o) w1) (v0 v1 : Value) :
    ZCan ((w1.setCell ⟨w.heap.size, 0, none⟩ v0).setCell ⟨w.heap.size, 1, none⟩ v1) w.heap.size b A n c z ∧ Ext w ((w1.setCell ⟨w.heap.size, 0, none⟩ v0).setCell ⟨w.heap.size, 1, none⟩ v1) :=
  ⟨((hz.put (p := ⟨w.heap.size, 0, none⟩) (by simp) v0).put (p := ⟨w.heap.size, 1, none⟩) (by simp) v1).base (by omega),
   Below.setCell (Below.setCell (Ext.new hb) (p := ⟨w.heap.size, 0, none⟩) (by simp) v0) (p := ⟨w.heap.size, 1, none⟩) (by simp) v1⟩
theorem zcell_of {w w1 : World} (hb : Ext (w.alloc (.cells #[.bool false, .slice none 0 0] 27)) w1) :
  w1.cell? ⟨w.heap.size, 0, none⟩ = some (.bool false) ∧ w1.cell? ⟨w.heap.size, 1, none⟩ = some (.slice none 0 0) ∧ w1.frozen? ⟨w.heap.size, 0, none⟩ = false ∧ w1.frozen? ⟨w.heap.size, 1, none⟩ = false ∧ w.heap.size < w1.heap.size :=
 ⟨Ext.cellOf hb (by simp [go_sem]), Ext.cellOf hb (by simp [go_sem]), (hb.frozen (p := ⟨w.heap.size, 0, none⟩) (by simp)).trans (by simp [go_sem]), (hb.frozen (p := ⟨w.heap.size, 1, none⟩) (by simp)).trans (by simp [go_sem]), by have := hb.size; simp at this; omega⟩
def I64r (z : Int) : Prop := -9223372036854775808 ≤ z ∧ z ≤ 9223372036854775807
set_option maxHeartbeats 800000 in
theorem fromInt_any (z : Int) (w : World) (hz : I64r z) :
  Calls Tryz.prog 47 #[.int .i64 z] w (RetZ w z) := by
 obtain ⟨hz1, hz2⟩ := hz
 have HS := LH (sgn_natAbs z)
 by_cases h : z < 0
 ·have hb : decide (z < 0) = true := decide_eq_true h
  rw [hb] at HS
  go_enter Tryz.func47, Tryz.ntmps47
  go_wp2_with fail
  refine (small_any true _ z.natAbs (by simp only [u64_wrap]; omega) _ (by omega)).mono ?_
  rintro e w1 ⟨b, A, n, c, rfl, hz, hb1⟩
  rw [HS.out] at hz
  have HZ := LH hz
  clear hz
  obtain ⟨d0, d1, f0, f1, hsz⟩ := zcell_of hb1
  go_wp2_with fail
  refine bodyPost_ret (v := .agg #[.bool b, .slice A n c]) (by simp [results, Tryz.results47, go_sem, d0, d1]) rfl ?_
  exact ⟨_, _, _, _, rfl, retZ_put (by simpa using HZ.out) hb1 _ _⟩
 ·have hb : decide (z < 0) = false := decide_eq_false h
  rw [hb] at HS
  go_enter Tryz.func47, Tryz.ntmps47
  go_wp2_with fail
  refine (small_any false _ z.natAbs (by omega) _ (by omega)).mono ?_
  rintro e w1 ⟨b, A, n, c, rfl, hz, hb1⟩
  rw [HS.out] at hz
  have HZ := LH hz
  clear hz
  obtain ⟨d0, d1, f0, f1, hsz⟩ := zcell_of hb1
  go_wp2_with fail
  refine bodyPost_ret (v := .agg #[.bool b, .slice A n c]) (by simp [results, Tryz.results47, go_sem, d0, d1]) rfl ?_
  exact ⟨_, _, _, _, rfl, retZ_put (by simpa using HZ.out) hb1 _ _⟩
def i64B (z : Int) : Bool := decide (-9223372036854775808 ≤ z ∧ z ≤ 9223372036854775807)
def i64V (z : Int) : Int := if i64B z then z else 0
theorem ret_vb {a b : Int} {x y : Bool} (h : a = b) (k : x = y) : Ending.returned (.tuple #[.int .i64 a, .bool x]) = .returned (.tuple #[.int .i64 b, .bool y]) := by rw [h, k]
theorem int64_no {b : Bool} {m : Nat} (h : i64B (sgn b m) = false) : i64V (sgn b m) = 0 := by unfold i64V; rw [h]; rfl
theorem int64_yes {b : Bool} {m : Nat} (h : i64B (sgn b m) = true) : i64V (sgn b m) = sgn b m := by unfold i64V; rw [h]; rfl
set_option maxHeartbeats 800000 in
theorem int64_any (b : Bool) (A : Option Addr) (n c : Nat) (z : Int) (w : World) (h : ZIs w b A n c z) :
  Calls Tryz.prog 82 #[.agg #[.bool b, .slice A n c]] w fun e w' => e = .returned (.tuple #[.int .i64 (i64V z), .bool (i64B z)]) ∧ Ext w w' := by
 obtain ⟨xs, h1, h2, h3, rfl⟩ := h
 obtain ⟨m, hm0⟩ : ∃ m, natOf xs = m := ⟨_, rfl⟩
 have HM := LH hm0
 rw [hm0]
 clear hm0
 go_enter Tryz.func82, Tryz.ntmps82
 go_wp2_with fail
 refine (trim_any A n c xs _ (h1.below (Ext.al Ext.rfl' _)) h2 h3).mono ?_
 rintro e w1 ⟨rfl, rfl⟩
 have HT := LH (h1.below (Ext.al Ext.rfl' (.cells #[.bool b, .slice A n c] 27))).trim
 clear h1 h2 h3
 rw [HM.out] at HT ⊢
 have HL := LH (@wordsOf_len m 2)
 obtain ⟨k, hk⟩ : ∃ k, (wordsOf m).length = k := ⟨_, rfl⟩
 rw [hk] at HT HL ⊢
 clear hk
 by_cases hk2 : k ≤ 2
 ·have hm : m < 18446744073709551616 := HL.out.1 hk2
  have hb : decide (2 < (k : Int)) = false := by simp; omega
  go_wp2_with fail
  refine (low_any A k c (wordsOf m) _ HT.out hk2).mono ?_
  rintro e w2 ⟨rfl, j, rfl⟩
  rw [natOf_wordsOf]
  cases b
  ·by_cases hs : m < 9223372036854775808
   ·have HB : Hid (i64B (sgn false m) = true) := by unfold Hid i64B sgn; simp; omega
    have hb2 : decide (9223372036854775808 ≤ (m : Int)) = false := by simp; omega
    go_wp2_with fail
    go_ret2
    exact ⟨ret_vb (by rw [int64_yes HB.out]; simp [sgn]) HB.out.symm, below_drewN (Ext.al Ext.rfl' _) _⟩
   ·have HB : Hid (i64B (sgn false m) = false) := by unfold Hid i64B sgn; simp; omega
    have hb2 : decide (9223372036854775808 ≤ (m : Int)) = true := by simp; omega
    go_wp2_with fail
    go_ret2
    exact ⟨ret_vb (int64_no HB.out).symm HB.out.symm, below_drewN (Ext.al Ext.rfl' _) _⟩
  ·by_cases hs : m ≤ 9223372036854775808
   ·have HB : Hid (i64B (sgn true m) = true) := by unfold Hid i64B sgn; simp; omega
    have hb2 : decide (9223372036854775808 < (m : Int)) = false := by simp; omega
    go_wp2_with fail
    go_ret2
    exact ⟨ret_vb (by rw [int64_yes HB.out]; simp only [wrap64, u64_wrap, sgn, if_true]; omega) HB.out.symm, below_drewN (Ext.al Ext.rfl' _) _⟩
   ·have HB : Hid (i64B (sgn true m) = false) := by unfold Hid i64B sgn; simp; omega
    have hb2 : decide (9223372036854775808 < (m : Int)) = true := by simp; omega
    go_wp2_with fail
    go_ret2
    exact ⟨ret_vb (int64_no HB.out).symm HB.out.symm, below_drewN (Ext.al Ext.rfl' _) _⟩
 ·have hm : 18446744073709551616 ≤ m := Nat.le_of_not_lt fun hlt => hk2 (HL.out.2 hlt)
  have hb : decide (2 < (k : Int)) = true := by simp; omega
  have HB : Hid (i64B (sgn b m) = false) := by unfold Hid i64B sgn; cases b <;> simp <;> omega
  go_wp2_with fail
  go_ret2
  exact ⟨ret_vb (int64_no HB.out).symm HB.out.symm, Ext.al Ext.rfl' _⟩
set_option maxHeartbeats 800000 in
theorem sign_any (b : Bool) (A : Option Addr) (n c : Nat) (z : Int) (w : World) (h : ZIs w b A n c z) :
  Calls Tryz.prog 92 #[.agg #[.bool b, .slice A n c]] w fun e w' => e = .returned (.int .i64 z.sign) ∧ Ext w w' := by
 obtain ⟨xs, h1, h2, h3, rfl⟩ := h
 obtain ⟨m, hm0⟩ : ∃ m, natOf xs = m := ⟨_, rfl⟩
 have HM := LH hm0
 rw [hm0]
 clear hm0
 go_enter Tryz.func92, Tryz.ntmps92
 go_wp2_with fail
 refine (trim_any A n c xs _ (h1.below (Ext.al Ext.rfl' _)) h2 h3).mono ?_
 rintro e w1 ⟨rfl, rfl⟩
 clear h1 h2 h3
 rw [HM.out]
 by_cases h0 : m = 0
 ·have hl : (wordsOf m).length = 0 := wordsOf_eq_nil.2 h0
  have H0 := LH h0
  rw [hl]
  clear hl h0
  go_wp2_with fail
  go_ret
  exact ⟨by rw [H0.out, sgn_zero]; rfl, Ext.al Ext.rfl' _⟩
 ·have hl : (wordsOf m).length ≠ 0 := fun e => h0 (wordsOf_eq_nil.1 e)
  obtain ⟨k, hk⟩ : ∃ k, (wordsOf m).length = k := ⟨_, rfl⟩
  rw [hk] at hl ⊢
  have hb : ((k : Int) == 0) = false := by simp; omega
  clear hl hk
  cases b
  ·have HS : Hid ((sgn false m).sign = 1) := by unfold Hid sgn; simp; omega
   go_wp2_with fail
   go_ret
   exact ⟨by rw [HS.out]; rfl, Ext.al Ext.rfl' _⟩
  ·have HS : Hid ((sgn true m).sign = -1) := by unfold Hid sgn; simp; omega
   go_wp2_with fail
   go_ret
   exact ⟨by rw [HS.out]; rfl, Ext.al Ext.rfl' _⟩
end Go.Proofs.YtjinpfnefeiooaaGreat
namespace Go.Proofs.YtjinpfnefeiooaaGreat
open Go.RowKit

def cmpN (a b : Nat) : Int := if a < b then -1 else if b < a then 1 else 0
theorem drop_cons {xs : List Nat} {k : Nat} (hk : k < xs.length) : xs.drop k = xs.getD k 0 :: xs.drop (k + 1) := by rw [List.drop_eq_getElem_cons hk]; simp [List.getD, hk]
theorem drewN_three {w : World} {a b c : Nat} : ∃ k, ((w.drewN a).drewN b).drewN c = w.drewN k := ⟨a + b + c, by simp⟩
theorem wordsOf_lt_of_len {a b : Nat} (h : (wordsOf a).length < (wordsOf b).length) : a < b := by
 rcases Nat.lt_or_ge a b with h1 | h1
 ·exact h1
 ·have := wordsOf_mono h1; omega
theorem natOf_drop_lt {xs ys : List Nat} (hx : Words xs) (hl : xs.length = ys.length) {k : Nat} (hk : k < xs.length) (hd : xs.drop (k + 1) = ys.drop (k + 1)) (hlt : xs.getD k 0 < ys.getD k 0) : natOf xs < natOf ys := by
 rw [natOf_take_drop xs k (by omega), natOf_take_drop ys k (by omega)]
 have e1 : xs.drop k = xs.getD k 0 :: xs.drop (k + 1) := by rw [List.drop_eq_getElem_cons hk]; simp [List.getD, hk]
 have e2 : ys.drop k = ys.getD k 0 :: ys.drop (k + 1) := by rw [List.drop_eq_getElem_cons (by omega)]; simp [List.getD, show k < ys.length by omega]
 rw [e1, e2, hd]
 simp only [natOf]
 have h1 := natOf_lt (hx.take k)
 rw [List.length_take, Nat.min_eq_left (by omega)] at h1
 generalize natOf (ys.drop (k + 1)) = d at *
 generalize natOf (xs.take k) = p at *
 generalize natOf (ys.take k) = q at *
 generalize xs.getD k 0 = x at *
 generalize ys.getD k 0 = y at *
 generalize (4294967296 : Nat) ^ k = P at *
 have h2 : P * (x + 1 + 4294967296 * d) ≤ P * (y + 4294967296 * d) := Nat.mul_le_mul_left P (by omega)
 have h3 : P * (x + 1 + 4294967296 * d) = P * (x + 4294967296 * d) + P := by rw [show x + 1 + 4294967296 * d = (x + 4294967296 * d) + 1 by omega, Nat.mul_add, Nat.mul_one]
 omega
set_option maxHeartbeats 1600000 in
theorem compare_any (A : Option Addr) (n c : Nat) (a : Nat) (B : Option Addr) (m d : Nat) (b : Nat) (w : World) (hx : WordsAt w A n (wordsOf a)) (hy : WordsAt w B m (wordsOf b)) (hn : n ≤ maxLen) :
  Calls Tryz.prog 123 #[.slice A n c, .slice B m d] w fun e w' => e = .returned (.int .i64 (cmpN a b)) ∧ ∃ k, w' = w.drewN k := by
 unfold maxLen at hn
 by_cases hnm : n = m
 ·subst hnm
  have HL := LH hx.1
  have HM := LH hy.1
  have HX := LH hx.2.2
  have HY := LH hy.2.2
  have HB : Hid (∀ j, j < n → (wordsOf a).drop (j + 1) = (wordsOf b).drop (j + 1) → ((wordsOf a).getD j 0 < (wordsOf b).getD j 0 → cmpN a b = -1) ∧ ((wordsOf b).getD j 0 < (wordsOf a).getD j 0 → cmpN a b = 1)) := fun j hj hd => by
   have e1 := natOf_wordsOf a
   have e2 := natOf_wordsOf b
   constructor
   ·intro hlt
    have := natOf_drop_lt hx.2.1 (by rw [hx.1, hy.1]) (by rw [hx.1]; exact hj) hd hlt
    rw [e1, e2] at this
    unfold cmpN; rw [if_pos this]
   ·intro hlt
    have := natOf_drop_lt hy.2.1 (by rw [hx.1, hy.1]) (by rw [hy.1]; exact hj) hd.symm hlt
    rw [e1, e2] at this
    unfold cmpN; rw [if_neg (by omega), if_pos this]
  have HE : Hid (wordsOf a = wordsOf b → cmpN a b = 0) := fun h => by
   have : a = b := by rw [← natOf_wordsOf a, h, natOf_wordsOf]
   unfold cmpN; rw [if_neg (by omega), if_neg (by omega)]
  clear hx hy
  generalize cmpN a b = res at *
  generalize wordsOf a = xs at *
  generalize wordsOf b = ys at *
  go_enter Tryz.func123, Tryz.ntmps123
  go_wp2_with fail
  go_loopw [5] (fun i wr => ∃ k : Nat, k ≤ n ∧ i = .int .i64 ((k : Int) - 1) ∧ Hid (xs.drop k = ys.drop k) ∧ ∃ j, wr = w.drewN j) (fun i _ => (intOf i + 1).toNat)
  case atStart => exact ⟨n, Nat.le_refl _, rfl, by unfold Hid; rw [List.drop_eq_nil_of_le (by rw [HL.out]; exact Nat.le_refl _), List.drop_eq_nil_of_le (by rw [HM.out]; exact Nat.le_refl _)], 0, rfl⟩
  case round =>
   obtain ⟨k, hk, rfl, HD, j, rfl⟩ := hrel
   by_cases h0 : k = 0
   ·subst h0
    have hb : decide ((0 : Int) ≤ ((0 : Nat) : Int) - 1) = false := by simp
    have hb2 : decide ((1 : Int) ≤ ((0 : Nat) : Int)) = false := by simp
    have HR := LH (HE.out (by simpa using HD.out))
    go_wp2_with fail
    go_ret
    exact ⟨ret_i64 HR.out.symm, _, rfl⟩
   ·obtain ⟨i, rfl⟩ : ∃ i, k = i + 1 := ⟨k - 1, by omega⟩
    clear h0
    rw [show (((i + 1 : Nat) : Int) - 1) = (i : Int) by omega]
    obtain ⟨bX, oX, rfl, hbX, hcX⟩ := HX.out (by omega)
    obtain ⟨bY, oY, rfl, hbY, hcY⟩ := HY.out (by omega)
    have c1 := hcX i (by omega)
    have c2 := hcY i (by omega)
    clear hcX hcY
    have HBi := LH (HB.out i (by omega) HD.out)
    have HDi : Hid (xs.getD i 0 = ys.getD i 0 → xs.drop i = ys.drop i) := fun e => by
     rw [drop_cons (xs := xs) (by rw [HL.out]; omega), drop_cons (xs := ys) (by rw [HM.out]; omega), HD.out, e]
    have h01 : (0 : Int) ≤ (i : Int) := by omega
    have h02 : (i : Int) < (n : Int) := by omega
    generalize xs.getD i 0 = x at *
    generalize ys.getD i 0 = y at *
    by_cases hxy : x = y
    ·have HDe := LH (HDi.out hxy)
     clear HDi HBi
     subst hxy
     have hb : ((x : Int) != (x : Int)) = false := by simp
     go_wp2_with fail
     go_quiet (fail)
     go_wp2_with fail
     go_roundw
     case rel => exact ⟨i, by omega, by go_num, HDe, _, rfl⟩
     case measure => simp [intOf]
    ·have hb : ((x : Int) != (y : Int)) = true := by simp; omega
     by_cases hlt : x < y
     ·have hb2 : decide (x < y) = true := by simp; omega
      have HR := LH (HBi.out.1 hlt)
      clear hxy
      go_wp2_with fail
      go_quiet (fail)
      go_wp2_with fail
      go_quiet (fail)
      go_wp2_with fail
      go_ret
      exact ⟨ret_i64 HR.out.symm, drewN_three⟩
     ·have hb2 : decide (x < y) = false := by simp; omega
      have HR := LH (HBi.out.2 (by omega))
      clear hxy
      go_wp2_with fail
      go_quiet (fail)
      go_wp2_with fail
      go_quiet (fail)
      go_wp2_with fail
      go_ret
      exact ⟨ret_i64 HR.out.symm, drewN_three⟩
 ·have hb : ((n : Int) != (m : Int)) = true := by simp; omega
  by_cases hlt : n < m
  ·have hb2 : decide (n < m) = true := by simp; omega
   have HR : Hid (cmpN a b = -1) := by
    have := wordsOf_lt_of_len (a := a) (b := b) (by rw [hx.1, hy.1]; exact hlt)
    unfold Hid cmpN; rw [if_pos this]
   clear hx hy hnm
   go_enter Tryz.func123, Tryz.ntmps123
   go_wp2_with fail
   go_ret
   exact ⟨ret_i64 HR.out.symm, 0, rfl⟩
  ·have hb2 : decide (n < m) = false := by simp; omega
   have HR : Hid (cmpN a b = 1) := by
    have := wordsOf_lt_of_len (a := b) (b := a) (by rw [hx.1, hy.1]; omega)
    unfold Hid cmpN; rw [if_neg (by omega), if_pos this]
   clear hx hy hnm
   go_enter Tryz.func123, Tryz.ntmps123
   go_wp2_with fail
   go_ret
   exact ⟨ret_i64 HR.out.symm, 0, rfl⟩
end Go.Proofs.YtjinpfnefeiooaaGreat
namespace Go.Proofs.YtjinpfnefeiooaaGreat
open Go.RowKit

abbrev carV (g : Nat) : Value := .func (.func 144) #[] #[.pointer (some ⟨g, 0, none⟩)]
set_option maxHeartbeats 400000 in
theorem carrier_any (c : Nat) (w : World) :
  Calls Tryz.prog 139 #[.int .u64 c] w fun e w' => e = .returned (carV w.heap.size) ∧ w' = w.alloc (.cells #[.int .u64 (c : Int)] 97) := by
 go_enter Tryz.func139, Tryz.ntmps139
 go_wp2_with fail
 go_ret
 exact ⟨rfl, rfl⟩
set_option maxHeartbeats 400000 in
theorem next_any (g : Nat) (x c : Nat) (z : Int) (w : World) (hz : z = x) (hx : x + c < 18446744073709551616) (hc : w.cell? ⟨g, 0, none⟩ = some (.int .u64 (c : Int))) (hf : w.frozen? ⟨g, 0, none⟩ = false) :
  Calls Tryz.prog 144 #[.int .u64 z, .pointer (some ⟨g, 0, none⟩)] w fun e w' => e = .returned (.int .u32 ((x + c) % 4294967296 : Nat)) ∧ w' = w.setCell ⟨g, 0, none⟩ (.int .u64 ((x + c) / 4294967296 : Nat)) := by
 subst hz
 go_enter Tryz.func144, Tryz.ntmps144
 go_wp2_with fail
 go_ret
 refine ⟨?_, ?_⟩
 ·simp
 ·simp
end Go.Proofs.YtjinpfnefeiooaaGreat
