/- The contract of slices.Reverse at bytes: a row of bytes that the call owns is turned round. The contract of whole.Format: the decimal text of an integer. The walk of whole.Format. Printed by gen_txw.py. -/
import Derived.Test.YtnofbjcikfofgaaGreatTxZ
import Derived.Deep.LoopGhost
import Derived.Lib.Walk
import Derived.Sort.WalkB12
import Derived.Sort.OwnSorted
import Derived.Lib.SlicesMore
import Derived.Shelf.RegionOpenPlain
import Derived.Shelf.SlicesE.Kit
import Derived.Test.YtnofbjcikfofgaaGreatTxS
import Derived.Lib.SlBytesRow
namespace Go.Proofs.YtnofbjcikfofgaaGreat
open Go.RowKit Go.Lib Go.Sort Go.Shelf

/-- A byte as a value. -/
def encU (x : UInt8) : Value := .int .u8 (x.toNat : Int)
theorem encU_one : OneCell encU := fun _ => rfl
/-- A row of bytes that the call owns. -/
def OwnB (w : World) (B g n c : Nat) (l : Bs) : Prop := w.ownsRow B 5 1 (.slice (some ⟨g, 0, none⟩) n c) n (l.map encU)
theorem OwnB.len {w : World} {B g n c : Nat} {l : Bs} (h : OwnB w B g n c l) : l.length = n := by have := h.1; simpa using this
theorem OwnB.blk {w : World} {B g n c : Nat} {l : Bs} (h : OwnB w B g n c l) : ∃ cur, B ≤ g ∧ w.heap[g]? = some (.cells cur 5 (0, 0)) ∧ n ≤ c ∧ c ≤ maxLen ∧ cur.size = c ∧ cur.toList.take n = l.map encU := by
  rcases h.2 with ⟨h1, _⟩ | ⟨g', c', cur, h1, h2, h3, h4, h5, h6, h7⟩
  · simp at h1
  · simp only [Value.slice.injEq, Option.some.injEq, Addr.mk.injEq, and_true, true_and] at h1
    obtain ⟨rfl, rfl⟩ := h1
    exact ⟨cur, h2, h3, h4, h5, by omega, by rw [Nat.mul_one] at h7; exact h7⟩
theorem OwnB.holds {w : World} {B g n c : Nat} {l : Bs} (h : OwnB w B g n c l) : Holds encU w g 0 l.toArray := by
  obtain ⟨cur, _, hb, _, _, _, ht⟩ := h.blk
  have hl := h.len
  intro j hj
  have hj' : j < l.length := by simpa using hj
  refine ⟨?_, by simp [World.frozen?, hb]⟩
  have h1 : (cur.toList.take n)[j]? = (l.map encU)[j]? := by rw [ht]
  rw [List.getElem?_take_of_lt (by omega)] at h1
  simp only [World.cell?, hb, Nat.zero_add]
  simp only [Option.isSome_none, Bool.false_eq_true, if_false]
  rw [← Array.getElem?_toList, h1]
  simp [hj']

set_option maxHeartbeats 4000000 in
set_option maxRecDepth 1000000 in
theorem rev_arr (blk off cap : Nat) (d : Array UInt8) (w : World) (hH : Holds encU w blk off d) (hsz : d.size ≤ 9223372036854775807) :
    Calls Tryz.prog 80 #[.slice (some ⟨blk, off, none⟩) d.size cap] w fun e w' => e = .returned (.tuple #[]) ∧ ∃ n, w' = putRow encU (Sort.ahead w n) blk off d.reverse := by
  have mixed : Tryz.prog.follows Departure.mixedOrders = true := by kernel_rfl
  have hcl := encU_one.cells
  simp only [Value.cells] at hcl
  have hst := encU_one.store Tryz.prog
  go_enter Tryz.func80, Tryz.ntmps80
  go_wp2
  go_loopg [2, 3] d.size (fun k s2 s3 wr => ∃ (i jn : Nat) (jz : Int) (dk : Array UInt8) (n : Nat), s2 = .int .i64 i ∧ s3 = .int .i64 jz ∧ ((i : Int) < jz → jz = jn ∧ jn < d.size) ∧ (¬ (i : Int) < jz → ¬ i < jn) ∧ jn - i ≤ k ∧
    dk.size = d.size ∧ wr = putRow encU (Sort.ahead w n) blk off dk ∧ reverseLoop i jn dk = reverseLoop 0 (d.size - 1) d)
  case atStart => exact ⟨0, d.size - 1, (d.size : Int) - 1, d, 0, rfl, rfl, fun h => ⟨by omega, by omega⟩, fun h => by omega, by omega, rfl, (putRow_self encU w blk off d hH).symm, rfl⟩
  case round =>
    obtain ⟨i, jn, jz, dk, n, rfl, rfl, h1, h2, hk, hds, hwr, heq⟩ := hrel
    by_cases hlt : (i : Int) < jz
    · obtain ⟨rfl, hjn⟩ := h1 hlt
      have hij : i < jn := by omega
      have hid : i < d.size := by omega
      have hid2 : (i : Int) < (d.size : Int) := by omega
      have hjd2 : (jn : Int) < (d.size : Int) := by omega
      have hi0 : (0 : Int) ≤ (i : Int) := by omega
      have hj0 : (0 : Int) ≤ (jn : Int) := by omega
      have hHk : Holds encU wr blk off dk := by rw [hwr]; exact holds_putRow encU _ blk off d dk (holds_ahead encU w n blk off d hH) hds
      obtain ⟨ci, fi⟩ := hHk i (by omega)
      obtain ⟨cj, fj⟩ := hHk jn (by omega)
      have A : Aside (wr = putRow encU (Sort.ahead w n) blk off dk) := hwr
      clear hwr hHk hH h1 h2
      go_wp2_with fail
      go_region_o
      go_wp2
      go_roundg (jn - 1 - (i + 1))
      case measure => omega
      case rel =>
        rw [reverseLoop, if_pos hij] at heq
        exact ⟨i + 1, jn - 1, (jn : Int) - 1, swp dk i jn, n + 1, by simp, rfl, fun h => ⟨by omega, by omega⟩, fun h => by omega, Nat.le_refl _, by rw [size_swp]; exact hds,
          swap_world encU (by omega) (by omega) A.out (by first | rfl | simp [getElem!_pos, show jn < dk.size by omega]) (by first | rfl | simp [getElem!_pos, show i < dk.size by omega]), heq⟩
    · have hnot := h2 hlt
      go_wp2
      go_end0
      refine ⟨rfl, n, ?_⟩
      rw [reverseLoop, if_neg hnot] at heq
      rw [← Lib.reverseLoop_reverse, ← heq]
theorem rev_any (B g n c : Nat) (l : Bs) (w : World) (h : OwnB w B g n c l) (hn : n ≤ maxLen) :
    Calls Tryz.prog 80 #[.slice (some ⟨g, 0, none⟩) n c] w fun e w' => e = .returned (.tuple #[]) ∧ OwnB w' B g n c l.reverse ∧ Below B w w' := by
  have hl := h.len
  have h1 := rev_arr g 0 c l.toArray w h.holds (by unfold maxLen at hn; simpa [hl] using hn)
  have e : l.toArray.size = n := by simpa using hl
  rw [e] at h1
  refine h1.mono ?_
  rintro _ w' ⟨rfl, k, rfl⟩
  obtain ⟨cur, hB, hb, hnc, hcm, hcs, ht⟩ := h.blk
  have hheap : (putRow encU (Sort.ahead w k) g 0 l.toArray.reverse).heap[g]? = some (.cells (putCells encU 0 l.toArray.reverse cur) 5 (0, 0)) := by
    simp [putRow, mapBlock, Sort.ahead, Array.getElem?_modify, hb, onCells]
  refine ⟨rfl, ⟨by simp [hl], .inr ⟨g, c, _, rfl, hB, hheap, hnc, hcm, by simp [putCells, hcs], ?_⟩⟩, ⟨rfl, rfl, rfl, by simp [putRow, mapBlock, Sort.ahead], fun b hbB => ?_⟩⟩
  · rw [Nat.mul_one]
    apply List.ext_getElem?
    intro j
    by_cases hj : j < n
    · rw [List.getElem?_take_of_lt hj, Array.getElem?_toList]
      simp [putCells, hj, hl, show j < cur.size by omega]
    · rw [List.getElem?_take_eq_none (by omega), List.getElem?_eq_none (by simp; omega)]
  · have hgb : g ≠ b := by omega
    simp [putRow, mapBlock, Sort.ahead, Array.getElem?_modify, hgb]
end Go.Proofs.YtnofbjcikfofgaaGreat

namespace Go.Proofs.YtnofbjcikfofgaaGreat
open Go.RowKit

/-- The k lowest digits, the lowest first. -/
def leD : Nat → Nat → Bs
  | 0, _ => []
  | k + 1, m => digC m :: leD k (m / 10)
theorem leD_len : ∀ (k m : Nat), (leD k m).length = k
  | 0, _ => rfl
  | k + 1, m => by rw [leD, List.length_cons, leD_len k]
theorem leD_snoc : ∀ (k m : Nat), leD (k + 1) m = leD k m ++ [digC (m / 10 ^ k)]
  | 0, m => by simp [leD]
  | k + 1, m => by
    have := leD_snoc k (m / 10)
    rw [leD, this, leD, List.cons_append, Nat.div_div_eq_div_mul, Nat.pow_succ, Nat.mul_comm (10 ^ k)]
theorem fmtN_le : ∀ (k m : Nat), (10 ^ k ≤ m ∨ k = 0) → m < 10 ^ (k + 1) → fmtN m = (leD (k + 1) m).reverse
  | 0, m, _, h => by
    rw [fmtN_small (by simpa using h)]
    simp [leD]
  | k + 1, m, h1, h2 => by
    have h3 : 10 ^ (k + 1) ≤ m := h1.resolve_right (by omega)
    have h4 : 10 ≤ m := Nat.le_trans (by rw [Nat.pow_succ]; have := Nat.pow_pos (n := k) (show 0 < 10 by omega); omega) h3
    have := fmtN_le k (m / 10) (.inl ((Nat.le_div_iff_mul_le (by omega)).2 (by rw [← Nat.pow_succ]; exact h3))) (Nat.div_lt_of_lt_mul (by rw [Nat.mul_comm, ← Nat.pow_succ]; exact h2))
    rw [fmtN_big h4, this]
    rw [show leD (k + 1 + 1) m = digC m :: leD (k + 1) (m / 10) from rfl, List.reverse_cons]
theorem digC_mod (m k : Nat) (h : 0 < k) : digC (m % 10 ^ k) = digC m := by
  unfold digC
  obtain ⟨j, rfl⟩ : ∃ j, k = j + 1 := ⟨k - 1, by omega⟩
  rw [Nat.pow_succ, Nat.mul_comm, Nat.mod_mul_right_mod]
/-- The digit of the remainder is the digit of the number. -/
theorem digit_eq (m K i : Nat) (h : i < 9) : digC ((m / 10 ^ K) % 1000000000 / 10 ^ i) = digC (m / 10 ^ (K + i)) := by
  have h9 : (1000000000 : Nat) = 10 ^ i * 10 ^ (9 - i) := by rw [← Nat.pow_add, show i + (9 - i) = 9 by omega]
  rw [h9, Nat.mod_mul_right_div_self, digC_mod _ _ (by omega), Nat.div_div_eq_div_mul, ← Nat.pow_add]
theorem digC_zero {m K : Nat} : digC (m / 10 ^ K) = 48 ↔ (m / 10 ^ K) % 10 = 0 := by
  constructor
  · intro h
    have := digC_toNat (m / 10 ^ K)
    rw [h] at this
    have e3 : (48 : UInt8).toNat = 48 := rfl
    omega
  · intro h
    unfold digC
    rw [h]
    rfl
theorem WW.trim {w : World} {b off n : Nat} {qs : List Nat} (h : WW w b off n qs) : WW w b off (wordsOf (natOf qs)).length (wordsOf (natOf qs)) := by
  have ht := h.words.trim
  refine ⟨ht.1, ht.2.1, h.2.2.1, fun i hi => ?_, h.2.2.2.2⟩
  obtain ⟨b', off', e, _, hc⟩ := ht.2.2 (by omega)
  injection e with e
  injection e with e1 e2
  subst e1 e2
  exact hc i hi
/-- Bytes that the call owns: nil, or a row of its own. -/
def RowB (w : World) (B : Nat) (v : Value) (n : Nat) (l : Bs) : Prop := w.ownsRow B 5 1 v n (l.map encU)
theorem RowB.own {w : World} {B n : Nat} {v : Value} {l : Bs} (h : RowB w B v n l) (hn : 0 < n) : ∃ g c, v = .slice (some ⟨g, 0, none⟩) n c ∧ OwnB w B g n c l := by
  rcases h.2 with ⟨rfl, rfl⟩ | ⟨g, cap, cur, rfl, hg, _⟩
  · omega
  · exact ⟨g, cap, rfl, h⟩
theorem RowB.ge {w : World} {B n : Nat} {v : Value} {l : Bs} (h : RowB w B v n l) {k : Nat} (hk : v.ownBlock = some k) : B ≤ k ∧ k < w.heap.size := by have := own_lt h hk; exact ⟨this.2, this.1⟩
theorem OwnB.cell {w : World} {B g n c : Nat} {l : Bs} (h : OwnB w B g n c l) {i : Nat} (hi : i < n) : w.cell? ⟨g, i, none⟩ = some (.int .u8 ((l.getD i 0).toNat : Int)) := by
  have hl := h.len
  have := (h.holds i (by simp; omega)).1
  rw [Nat.zero_add] at this
  rw [this]
  simp [encU, List.getD, show i < l.length by omega]
theorem OwnB.take {w : World} {B g n c : Nat} {l : Bs} (h : OwnB w B g n c l) {k : Nat} (hk : k ≤ n) : OwnB w B g k c (l.take k) := by
  obtain ⟨cur, hB, hb, hnc, hcm, hcs, ht⟩ := h.blk
  have hl := h.len
  refine ⟨by simp; omega, .inr ⟨g, c, cur, rfl, hB, hb, by omega, hcm, by omega, ?_⟩⟩
  rw [Nat.mul_one, List.map_take, ← ht, List.take_take, show min k n = k by omega]
theorem OwnB.bytes {w : World} {B g n c : Nat} {l : Bs} (h : OwnB w B g n c l) : Lib.Bytes w g 0 (bs l) := fun i hi => by
  have hl := h.len
  rw [bs_size] at hi
  rw [Nat.zero_add, h.cell (by omega)]
  simp [List.getD, bs, hi]
  rfl
theorem info_u8 : (Tryz.prog.info? 5).map (fun i => (i.zero, i.size, i.bytes)) = some (some (.int .u8 0), 1, 1) := by kernel_rfl
theorem iter_bound {m n j : Nat} (h : m < 4294967296 ^ n) (h2 : 10 ^ (9 * j) ≤ m) : j + 1 ≤ 32 * n := by
  have e1 : (4294967296 : Nat) ^ n = 2 ^ (32 * n) := by rw [Nat.pow_mul]
  have e2 : (2 : Nat) ^ j ≤ 10 ^ (9 * j) := by
    rw [Nat.pow_mul]
    exact Nat.pow_le_pow_left (by decide) j
  have h3 : (2 : Nat) ^ j < 2 ^ (32 * n) := by rw [← e1]; omega
  have := (Nat.pow_lt_pow_iff_right (a := 2) (by omega)).1 h3
  omega
theorem RowB.lenV {w : World} {B n : Nat} {v : Value} {l : Bs} (h : RowB w B v n l) : lenV v = n := by
  rcases h.2 with ⟨rfl, rfl⟩ | ⟨g, cap, cur, rfl, hg, _⟩ <;> rfl
theorem div_pow9 (m j : Nat) : m / 10 ^ (9 * j) / 1000000000 = m / 10 ^ (9 * (j + 1)) := by
  rw [Nat.div_div_eq_div_mul, show (1000000000 : Nat) = 10 ^ 9 from rfl, ← Nat.pow_add, show 9 * j + 9 = 9 * (j + 1) by omega]
theorem strip_step {m K : Nat} (hm : 0 < m) (h : m < 10 ^ (K + 1)) (hd : digC (m / 10 ^ K) = 48) : 0 < K ∧ m < 10 ^ K := by
  have h1 := digC_zero.1 hd
  have h2 : m / 10 ^ K < 10 := Nat.div_lt_of_lt_mul (by rw [Nat.pow_succ] at h; exact h)
  have h3 : m / 10 ^ K = 0 := by
    clear hd h
    generalize m / 10 ^ K = q at *
    omega
  have h4 : m < 10 ^ K := (Nat.div_eq_zero_iff_lt (Nat.pow_pos (by omega))).1 h3
  refine ⟨?_, h4⟩
  rcases Nat.eq_zero_or_pos K with rfl | h5
  · simp at h4; omega
  · exact h5
theorem strip_stop {m K : Nat} (h : m < 10 ^ (K + 1)) (hd : digC (m / 10 ^ K) ≠ 48) : fmtN m = (leD (K + 1) m).reverse := by
  refine fmtN_le K m (.inl ?_) h
  rcases Nat.lt_or_ge m (10 ^ K) with h1 | h1
  · exfalso
    apply hd
    rw [Nat.div_eq_of_lt h1]
    rfl
  · exact h1
end Go.Proofs.YtnofbjcikfofgaaGreat

namespace Go.Proofs.YtnofbjcikfofgaaGreat
open Go.RowKit

set_option maxRecDepth 100000 in
set_option maxHeartbeats 8000000 in
theorem zfmt_any (s : Bool) (A : Option Addr) (n c : Nat) (z : Int) (w : World) (h : ZIs w s A n c z) (hn : n ≤ 1000) :
    Calls Tryz.prog 59 #[.agg #[.bool s, .slice A n c]] w fun e w' => e = .returned (.string (bs (fmtZ z))) ∧ Ext w w' := by
  obtain ⟨i0, hi, hz0, hz1, hz2⟩ := info_parts info_u8
  obtain ⟨xs, hw, hnc, hcm, hz⟩ := h
  obtain ⟨m, hm⟩ : ∃ m, natOf xs = m := ⟨_, rfl⟩
  rw [hm] at hz
  have HM := Lib.hid hm
  have HZ := Lib.hid hz
  have HNC := Lib.hid (And.intro hnc hcm)
  have hm32 : m < 4294967296 ^ n := by rw [← hm]; have := natOf_lt hw.2.1; rwa [hw.1] at this
  have HM32 := Lib.hid hm32
  clear hm hz hnc hcm hm32
  have HW := Lib.hid hw
  clear hw
  go_enter Tryz.func59, Tryz.ntmps59
  go_wp2_with fail
  have k0 := Cell2.new w _ rfl (.bool s) (.slice A n c) 49
  have hE : Ext w (w.alloc (.cells #[.bool s, .slice A n c] 49)) := Ext.al Ext.rfl' _
  generalize w.alloc (.cells #[.bool s, .slice A n c] 49) = w1 at *
  have K0 := Lib.hid k0
  have HE1 := Lib.hid hE
  clear k0 hE
  obtain ⟨x0, x1, -, -, xl⟩ := K0.out
  go_wp2_with fail
  refine (trim_any A n c xs w1 (HW.out.below HE1.out) HNC.out.1 HNC.out.2).mono ?_
  rintro e w' ⟨rfl, rfl⟩
  rw [HM.out]
  have htr := ((HW.out.below HE1.out).trim)
  rw [HM.out] at htr
  have hln : (wordsOf m).length ≤ n := by rw [← HM.out]; have := words_len_ge HW.out.2.1; rwa [HW.out.1] at this
  clear x0 x1 xl
  go_wp2_with fail
  refine (clone_any A _ c (wordsOf m) w1 htr (by omega)).mono ?_
  rintro e w2 ⟨A2, c2, rfl, hN2, hE2⟩
  have HN2 := Lib.hid hN2
  have HE2 := Lib.hid hE2
  clear hN2 hE2 htr
  by_cases hm0 : m = 0
  · have hl0 : (wordsOf m).length = 0 := by rw [hm0]; simp [wordsOf_zero]
    have HFZ : Hid (bs (fmtZ z) = ⟨#[48]⟩) := by
      have : z = 0 := by rw [HZ.out, hm0]; cases s <;> rfl
      rw [this]
      rfl
    rw [hl0]
    clear hl0 hln
    go_wp2_with fail
    go_ret
    exact ⟨by rw [HFZ.out]; rfl, Ext.trans HE1.out HE2.out⟩
  · obtain ⟨n', hn'⟩ : ∃ k, (wordsOf m).length = k := ⟨_, rfl⟩
    have hn0 : 0 < n' := by
      rcases Nat.eq_zero_or_pos n' with h0 | h0
      · rw [h0] at hn'
        exact absurd (wordsOf_eq_nil.1 hn') hm0
      · exact h0
    have HNP := Lib.hid hn'
    rw [hn'] at HN2 hln ⊢
    clear hn'
    obtain ⟨b, off, rfl, hb1, hWW⟩ := HN2.out.ww hn0
    have hlb : ((n' : Int) == 0) = false := by simp; omega
    have HC2 : Hid (n' ≤ c2 ∧ c2 ≤ maxLen) := ⟨HN2.out.2.1, HN2.out.2.2.1⟩
    obtain ⟨Bd, hBd⟩ : ∃ g, w2.heap.size = g := ⟨_, rfl⟩
    have hbBd : b < Bd := by rw [← hBd]; exact hWW.2.2.1
    have hw1b : w1.heap.size ≤ b := hb1
    have HBd := Lib.hid hBd
    have HWW0 := Lib.hid hWW
    have HM0 := Lib.hid hm0
    clear hBd hWW HN2 hm0 hb1
    go_wp2_with fail
    go_loopw [3, 4] (fun x v wr => ∃ (j : Nat) (ws : List Nat), x = .slice (some ⟨b, off, none⟩) ws.length c2 ∧ j ≤ 32 * n ∧ ws.length ≤ n' ∧ Hid (ws = wordsOf (m / 10 ^ (9 * j))) ∧ Hid (WW wr b off ws.length ws) ∧ Hid (RowB wr Bd v (9 * j) (leD (9 * j) m)) ∧ Hid (Ext w1 wr) ∧ Hid (Bd ≤ wr.heap.size)) (fun _ v _ => 9 * 32 * n + 9 - lenV v)
    case atStart =>
      refine ⟨0, wordsOf m, by rw [HNP.out], by omega, by rw [HNP.out]; exact Nat.le_refl _, by simp [Hid], ?_, ⟨by simp [leD], .inl ⟨rfl, rfl⟩⟩, HE2, by rw [HBd.out]; exact Nat.le_refl _⟩
      unfold Hid
      rw [HNP.out]
      exact HWW0.out
    case round =>
      obtain ⟨j, ws, rfl, hj, hwn, HWS, HWW, HRB, HE, HBW⟩ := hrel
      have HVN : Hid (natOf ws = m / 10 ^ (9 * j)) := by unfold Hid; rw [HWS.out, natOf_wordsOf]
      by_cases hpos : 0 < ws.length
      · have hpb : decide ((0 : Int) < (ws.length : Int)) = true := decide_eq_true (by omega)
        have hpb2 : decide (0 < ws.length) = true := decide_eq_true hpos
        have hj1 : j + 1 ≤ 32 * n := by
          refine iter_bound HM32.out ?_
          have hV : m / 10 ^ (9 * j) ≠ 0 := fun e => by
            rw [HWS.out, e, wordsOf_zero] at hpos
            exact absurd hpos (by simp)
          rcases Nat.lt_or_ge m (10 ^ (9 * j)) with h1 | h1
          · exact absurd (Nat.div_eq_of_lt h1) hV
          · exact h1
        have hsd := shortDiv_any b off ws.length c2 ws 1000000000 wr HWW.out (by omega) (by omega) (by omega)
        rw [show ((1000000000 : Nat) : Int) = 1000000000 from rfl] at hsd
        have HSD := Lib.hid hsd
        have HK2 := Lib.hid (K0.out.ext HE.out)
        clear hsd
        go_wp2_with fail
        refine HSD.out.mono ?_
        rintro e w3 ⟨rfl, ⟨qs, hqs, hqv⟩, hg3⟩
        have hR9 : natOf ws % 1000000000 < 1000000000 := Nat.mod_lt _ (by omega)
        obtain ⟨R, hR⟩ : ∃ R, natOf ws % 1000000000 = R := ⟨_, rfl⟩
        have HRM : Hid (R = (m / 10 ^ (9 * j)) % 1000000000) := by unfold Hid; rw [← hR, HVN.out]
        rw [hR] at hR9 ⊢
        have HQV : Hid (natOf qs = m / 10 ^ (9 * (j + 1))) := by unfold Hid; rw [hqv, HVN.out, div_pow9]
        have HWQ := Lib.hid hqs
        have HRB0 := HRB
        have HRB1 : Hid (RowB w3 Bd u4 (9 * j) (leD (9 * j) m)) := own_keep HRB.out (fun g hg => hg3.block g (own_lt HRB.out hg).1 (fun e => by
          have := HRB.out.ge hg
          injection e with e
          omega))
        have HE1' : Hid (Ext w1 w3) := ext_grownW HE.out hg3 (fun g e => by cases e; exact hw1b)
        have HBW1 : Hid (Bd ≤ w3.heap.size) := Nat.le_trans HBW.out hg3.size
        have hnq' : (wordsOf (natOf qs)).length ≤ ws.length := by have := words_len_ge hqs.2.1; rwa [hqs.1] at this
        clear hR hqv hqs hg3 HRB HE HBW
        go_wp2_with fail
        refine (trim_any (some ⟨b, off, none⟩) ws.length c2 qs w3 HWQ.out.words (by have := HC2.out; omega) HC2.out.2).mono ?_
        rintro e w' ⟨rfl, rfl⟩
        have HWW1' := HWQ.out.trim
        obtain ⟨nq, hnq0⟩ : ∃ k, (wordsOf (natOf qs)).length = k := ⟨_, rfl⟩
        have HNQ := Lib.hid hnq0
        rw [hnq0] at HWW1' hnq' ⊢
        have hnq : nq ≤ ws.length := hnq'
        have HWW1 := Lib.hid HWW1'
        clear hnq0 hnq' HWW1' HWW
        obtain ⟨K, hK⟩ : ∃ K, 9 * j = K := ⟨_, rfl⟩
        have hKb : K + 10 ≤ 300000 := by omega
        have HK9 := Lib.hid hK
        rw [hK] at HRM HRB1 HRB0
        clear hK
        go_wp2_with fail
        go_loopw [4, 5, 20] (fun v r i wq => ∃ (k rr : Nat), k ≤ 9 ∧ i = .int .i64 (k : Int) ∧ r = .int .u64 (rr : Int) ∧ rr < 1000000000 ∧ Hid (rr = R / 10 ^ k) ∧ Hid (RowB wq Bd v (K + k) (leD (K + k) m)) ∧ Hid (Ext w1 wq) ∧ Hid (WW wq b off nq (wordsOf (natOf qs))) ∧ Hid (Bd ≤ wq.heap.size)) (fun _ _ i _ => 9 - (intOf i).toNat)
        case atStart => exact ⟨0, R, by omega, rfl, rfl, hR9, by simp [Hid], HRB1, HE1', HWW1, HBW1⟩
        case round =>
          obtain ⟨k, rr, hk, rfl, rfl, hrr, HRR, HRB, HE, HWW, HBD⟩ := hrel
          by_cases hk9 : k < 9
          · have hkb : decide ((k : Int) < 9) = true := by simp; omega
            have hkb2 : decide (k < 9) = true := by simp; omega
            have hdc : ((digC rr).toNat : Int) = 48 + (rr : Int) % 10 := by rw [digC_toNat]; omega
            have hw8 : IntKind.u8.wrap (48 + (rr : Int) % 10) = 48 + (rr : Int) % 10 := by
              simp [IntKind.wrap, IntKind.bits, IntKind.signed]
              omega
            have HDG : Hid (digC rr = digC (m / 10 ^ (K + k))) := by
              unfold Hid
              rw [HRR.out, HRM.out, digit_eq _ _ _ hk9]
            have HSN : Hid (leD (K + (k + 1)) m = leD (K + k) m ++ [digC rr]) := by
              unfold Hid
              rw [HDG.out, ← leD_snoc]
              rfl
            have hval : [Value.int .u8 (48 + (rr : Int) % 10)] = [encU (digC rr)] := by unfold encU; rw [hdc]
            have HVAL := Lib.hid hval
            have HKB := Lib.hid hKb
            clear hval hdc
            go_wp2_with (at_builtin
                         refine wpList_append_own _ rfl (.tmp 22) (.tmp 27) 77 rfl Bd 5 i0 _ 1 1 Tryz.underlying77 hi hz0 hz1 hz2 rfl (by omega) _ (K + k) ((leD (K + k) m).map encU) rfl (own_keep HRB.out (fun g hg => Below.heap_alloc wr _ g (own_lt HRB.out hg).1)) ⟨wr.heap.size, 0, none⟩ 1 1 [.int .u8 (48 + (rr : Int) % 10)] rfl rfl (World.news_of_block (cs := #[.int .u8 (48 + (rr : Int) % 10)]) (t := 5) (fr := (0, 0)) (World.alloc_heap_new wr _)) (by simp [Value.oneCell']) (by simp [maxLen]; have := HKB.out; omega) (by have := HKB.out; omega) (by have := HBD.out; simp; omega) ?_
                         intro v3 w4 hown hg hv3
                         have HO := Lib.hid hown
                         have HG := Lib.hid hg
                         clear hown hg hv3)
            go_roundw
            case rel =>
              refine ⟨k + 1, rr / 10, by omega, by go_num, by first | rfl | (refine congrArg (Value.int .u64) ?_; omega), by omega, ?_, ?_, ?_, ?_, ?_⟩
              · unfold Hid; rw [HRR.out, Nat.div_div_eq_div_mul, ← Nat.pow_succ]
              · have := HO.out
                rw [HVAL.out, ← List.map_singleton, ← List.map_append, ← HSN.out] at this
                exact this
              · exact ext_grownW (Ext.al HE.out _) HG.out (fun g e => by have := HRB.out.ge e; omega)
              · refine HWW.out.keep ((HG.out.block b (by have := HWW.out.2.2.1; simp; omega) (fun e => ?_)).trans (Below.heap_alloc wr _ b HWW.out.2.2.1))
                have := HRB.out.ge e.symm
                omega
              · have := HG.out.size
                have := HBD.out
                unfold Hid
                simp at *
                omega
            case measure => simp [intOf]; omega
          · obtain rfl : k = 9 := by omega
            have hkb : decide (((9 : Nat) : Int) < 9) = false := by simp
            have HK92 : Hid (9 * (j + 1) = K + 9) := by have := HK9.out; unfold Hid; omega
            go_wp2_with fail
            go_roundw
            case rel =>
              refine ⟨j + 1, wordsOf (natOf qs), by rw [HNQ.out], hj1, ?_, ?_, ?_, (by rw [HK92.out]; exact HRB.out), HE.out, HBD.out⟩
              · rw [HNQ.out]; exact Nat.le_trans hnq hwn
              · unfold Hid; rw [HQV.out]
              · unfold Hid; rw [HNQ.out]; exact HWW.out
            case measure =>
              have h1 := HRB.out.lenV
              have h2 := HRB0.out.lenV
              have h3 := HK9.out
              show 9 * 32 * n + 9 - lenV u4 < 9 * 32 * n + 9 - lenV _
              rw [h1, h2]
              omega
      · have hws0 : ws.length = 0 := by omega
        have hpb : decide ((0 : Int) < (ws.length : Int)) = false := decide_eq_false (by omega)
        have hpb2 : decide (0 < ws.length) = false := decide_eq_false hpos
        have hV0 : m / 10 ^ (9 * j) = 0 := by
          rw [HWS.out] at hws0
          exact wordsOf_eq_nil.1 hws0
        have hmlt : m < 10 ^ (9 * j) := (Nat.div_eq_zero_iff_lt (Nat.pow_pos (by omega))).1 hV0
        have hmpos : 0 < m := by have := HM0.out; omega
        have hKp : 0 < 9 * j := by
          rcases Nat.eq_zero_or_pos (9 * j) with h0 | h0
          · rw [h0] at hmlt; simp at hmlt; omega
          · exact h0
        have hKb : 9 * j ≤ 300000 := by omega
        obtain ⟨K, hK⟩ : ∃ K, 9 * j = K := ⟨_, rfl⟩
        rw [hK] at hmlt hKp HRB hKb
        have HMLT := Lib.hid hmlt
        have HMP := Lib.hid hmpos
        have HPB := Lib.hid hpb
        have HPB2 := Lib.hid hpb2
        have HWS0 := Lib.hid hws0
        clear hK hmlt hmpos hV0 hws0 hpos HWS HVN
        obtain ⟨g, c4, rfl, hOB⟩ := HRB.out.own hKp
        have HOB := Lib.hid hOB
        clear hOB HRB
        go_wp2_with fail
        go_loopw [4] (fun v wq => ∃ K' : Nat, v = .slice (some ⟨g, 0, none⟩) K' c4 ∧ 0 < K' ∧ K' ≤ 300000 ∧ Hid (m < 10 ^ K') ∧ Hid (OwnB wq Bd g K' c4 (leD K' m)) ∧ wq = wr) (fun v _ => lenV v)
        case atStart => exact ⟨K, rfl, hKp, hKb, HMLT.out, HOB, rfl⟩
        case round =>
          obtain ⟨K', rfl, hK0, hKM, HLT, HO, rfl⟩ := hrel
          obtain ⟨k, rfl⟩ : ∃ k, K' = k + 1 := ⟨K' - 1, by omega⟩
          have hcell := HO.out.cell (i := k) (by omega)
          have hlast : (leD (k + 1) m).getD k 0 = digC (m / 10 ^ k) := by
            rw [leD_snoc, List.getD_eq_getElem?_getD, List.getElem?_append_right (by rw [leD_len]; omega), leD_len]
            simp
          rw [hlast] at hcell
          have hkk : ((k + 1 : Nat) : Int) - 1 = (k : Int) := by omega
          have hkk2 : (0 : Int) ≤ (k : Int) := by omega
          have hkk3 : (k : Int) < ((k + 1 : Nat) : Int) := by omega
          have hkk4 : (k : Int) ≤ (c4 : Int) := by
            obtain ⟨cur, _, _, h1, _⟩ := HO.out.blk
            omega
          have hc4m : c4 ≤ maxLen := by
            obtain ⟨cur, _, _, _, h1, _⟩ := HO.out.blk
            exact h1
          unfold maxLen at hc4m
          have HSS := Lib.hid (fun h => strip_step HMP.out HLT.out h)
          have HST := Lib.hid (fun h => strip_stop HLT.out h)
          obtain ⟨dg, hdg⟩ : ∃ d, digC (m / 10 ^ k) = d := ⟨_, rfl⟩
          rw [hdg] at hcell
          have HDG := Lib.hid hdg
          clear hdg hlast
          by_cases h48 : dg = 48
          · have e48 : ((dg.toNat : Int) == 48) = true := by rw [h48]; rfl
            have e48' : (dg.toNat : Int) = 48 := by rw [h48]; rfl
            obtain ⟨hk0, hlt⟩ := HSS.out (by rw [HDG.out]; exact h48)
            have HLT2 := Lib.hid hlt
            have HO2 : Hid (OwnB wr Bd g k c4 (leD k m)) := by
              have := HO.out.take (k := k) (by omega)
              rw [leD_snoc, List.take_left' (leD_len _ _)] at this
              exact this
            clear HSS HST hlt h48
            go_wp2_with fail
            go_roundw
            case rel => exact ⟨k, rfl, hk0, by omega, HLT2, HO2, by first | rfl | trivial⟩
            case measure => simp [lenV]
          · have e48 : ((dg.toNat : Int) == 48) = false := by simpa using fun e => h48 (UInt8.toNat_inj.1 (by have e3 : (48 : UInt8).toNat = 48 := rfl; omega))
            have HF := Lib.hid (HST.out (by rw [HDG.out]; exact h48))
            have k1 := K0.out.ext HE.out
            obtain ⟨x0, x1, -, -, xl⟩ := k1
            clear HSS HST h48
            cases s
            · go_wp2_with fail
              clear x0 x1 xl
              refine (rev_any Bd g (k + 1) c4 (leD (k + 1) m) wr HO.out (by unfold maxLen; omega)).mono ?_
              rintro e w9 ⟨rfl, hO9, hb9⟩
              have hcv := Lib.run_convert_whole (P := Tryz.prog) w9 77 5 9 (by kernel_rfl) (by kernel_rfl) (by kernel_rfl) g 0 (bs ((leD (k + 1) m)).reverse) hO9.bytes c4
              rw [bs_size, hO9.len] at hcv
              have HE9 := Lib.hid (Ext.trans HE1.out (Below.trans HE.out (hb9.mono (show w1.heap.size ≤ Bd by omega))))
              have HFZ : Hid (((leD (k + 1) m)).reverse = fmtZ z) := by
                unfold Hid
                rw [HZ.out]
                unfold sgn fmtZ
                simp only [Bool.false_eq_true, if_false]
                rw [if_neg (show ¬ ((m : Int) < 0) by omega), Int.natAbs_natCast, HF.out]
              clear hO9 hb9
              go_wp2_with fail
              go_ret
              exact ⟨by rw [← HFZ.out]; rfl, HE9.out⟩
            · go_wp2_with (at_builtin
                           refine wpList_append_own _ rfl (.tmp 46) (.tmp 47) 77 rfl Bd 5 i0 _ 1 1 Tryz.underlying77 hi hz0 hz1 hz2 rfl (by omega) _ (k + 1) ((leD (k + 1) m).map encU) rfl (own_keep HO.out (fun g hg => Below.heap_alloc wr _ g (own_lt HO.out hg).1)) ⟨wr.heap.size, 0, none⟩ 1 1 [.int .u8 45] rfl rfl (World.news_of_block (cs := #[.int .u8 45]) (t := 5) (fr := (0, 0)) (World.alloc_heap_new wr _)) (by simp [Value.oneCell']) (by simp [maxLen]; omega) (by omega) (by have := HBW.out; simp; omega) ?_
                           intro v3 w4 hown hg hv3
                           have HO4 : Hid (RowB w4 Bd v3 (k + 1 + 1) (leD (k + 1) m ++ [45])) := by
                             unfold Hid RowB
                             rw [List.map_append]
                             exact hown
                           have HE4 : Hid (Ext w1 w4) := ext_grownW (Ext.al HE.out _) hg (fun x e => by have := own_lt HO.out e; omega)
                           obtain ⟨g3, c3, rfl, hO3⟩ := HO4.out.own (by omega)
                           have HO3 := Lib.hid hO3
                           clear hown hg hv3 hO3 x0 x1 xl)
              refine (rev_any Bd g3 (k + 1 + 1) c3 (leD (k + 1) m ++ [45]) w4 HO3.out (by unfold maxLen; omega)).mono ?_
              rintro e w9 ⟨rfl, hO9, hb9⟩
              have hcv := Lib.run_convert_whole (P := Tryz.prog) w9 77 5 9 (by kernel_rfl) (by kernel_rfl) (by kernel_rfl) g3 0 (bs ((leD (k + 1) m ++ [45])).reverse) hO9.bytes c3
              rw [bs_size, hO9.len] at hcv
              have HE9 := Lib.hid (Ext.trans HE1.out (Below.trans HE4.out (hb9.mono (show w1.heap.size ≤ Bd by omega))))
              have HFZ : Hid (((leD (k + 1) m ++ [45])).reverse = fmtZ z) := by
                unfold Hid
                rw [HZ.out]
                unfold sgn fmtZ
                simp only [if_true]
                rw [if_pos (show (-(m : Int)) < 0 by have := HMP.out; omega), Int.natAbs_neg, Int.natAbs_natCast, HF.out, List.reverse_append]
                rfl
              clear hO9 hb9
              go_wp2_with fail
              go_ret
              exact ⟨congrArg (fun l => Ending.returned (.string (bs l))) (show 45 :: List.reverse (leD (k + 1) m) = fmtZ z from by rw [← HFZ.out, List.reverse_append]; rfl), HE9.out⟩

end Go.Proofs.YtnofbjcikfofgaaGreat
