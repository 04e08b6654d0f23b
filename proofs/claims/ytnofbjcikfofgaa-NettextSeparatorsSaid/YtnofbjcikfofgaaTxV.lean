/- The contract of slices.Reverse at bytes: a row of bytes that the call owns is turned round. -/
import Derived.Test.YtnofbjcikfofgaaTxZ
import Derived.Deep.LoopGhost
import Derived.Lib.Walk
import Derived.Sort.WalkB12
import Derived.Sort.OwnSorted
import Derived.Lib.SlicesMore
import Derived.Shelf.RegionOpenPlain
import Derived.Shelf.SlicesE.Kit
namespace Go.Proofs.Ytnofbjcikfofgaa
open Go.RowKit Go.Lib Go.Sort Go.Shelf

/-- A byte as a value. -/
def encU (x : UInt8) : Value := .int .u8 (x.toNat : Int)
theorem encU_one : OneCell encU := fun _ => rfl
/-- A row of bytes that the call owns. -/
def OwnB (w : World) (B g n c : Nat) (l : Bs) : Prop := w.ownsRow B 5 1 (.slice (some ⟨g, 0, none⟩) n c) n (l.map encU)
theorem OwnB.len {w : World} {B g n c : Nat} {l : Bs} (h : OwnB w B g n c l) : l.length = n := by have := h.1; simpa using this
theorem OwnB.blk {w : World} {B g n c : Nat} {l : Bs} (h : OwnB w B g n c l) : ∃ cur, B ≤ g ∧ w.heap[g]? = some (.cells cur 5 (0, 0)) ∧ n ≤ c ∧ c ≤ maxLen ∧ cur.size = c ∧ cur.toList.take n = l.map encU := by
  rcases h.2 with ⟨h1, _⟩ | ⟨g', c', cur, h1, h2, h3, h4, h5, h6, h7⟩
  · simp at h1
  · simp only [Value.slice.injEq, Option.some.injEq, Addr.mk.injEq, and_true, true_and] at h1
    obtain ⟨rfl, rfl⟩ := h1
    exact ⟨cur, h2, h3, h4, h5, by omega, by rw [Nat.mul_one] at h7; exact h7⟩
theorem OwnB.holds {w : World} {B g n c : Nat} {l : Bs} (h : OwnB w B g n c l) : Holds encU w g 0 l.toArray := by
  obtain ⟨cur, _, hb, _, _, _, ht⟩ := h.blk
  have hl := h.len
  intro j hj
  have hj' : j < l.length := by simpa using hj
  refine ⟨?_, by simp [World.frozen?, hb]⟩
  have h1 : (cur.toList.take n)[j]? = (l.map encU)[j]? := by rw [ht]
  rw [List.getElem?_take_of_lt (by omega)] at h1
  simp only [World.cell?, hb, Nat.zero_add]
  simp only [Option.isSome_none, Bool.false_eq_true, if_false]
  rw [← Array.getElem?_toList, h1]
  simp [hj']

set_option maxHeartbeats 4000000 in
set_option maxRecDepth 1000000 in
theorem rev_arr (blk off cap : Nat) (d : Array UInt8) (w : World) (hH : Holds encU w blk off d) (hsz : d.size ≤ 9223372036854775807) :
    Calls Try.prog 75 #[.slice (some ⟨blk, off, none⟩) d.size cap] w fun e w' => e = .returned (.tuple #[]) ∧ ∃ n, w' = putRow encU (Sort.ahead w n) blk off d.reverse := by
  have mixed : Try.prog.follows Departure.mixedOrders = true := by kernel_rfl
  have hcl := encU_one.cells
  simp only [Value.cells] at hcl
  have hst := encU_one.store Try.prog
  go_enter Try.func75, Try.ntmps75
  go_wp2
  go_loopg [2, 3] d.size (fun k s2 s3 wr => ∃ (i jn : Nat) (jz : Int) (dk : Array UInt8) (n : Nat), s2 = .int .i64 i ∧ s3 = .int .i64 jz ∧ ((i : Int) < jz → jz = jn ∧ jn < d.size) ∧ (¬ (i : Int) < jz → ¬ i < jn) ∧ jn - i ≤ k ∧
    dk.size = d.size ∧ wr = putRow encU (Sort.ahead w n) blk off dk ∧ reverseLoop i jn dk = reverseLoop 0 (d.size - 1) d)
  case atStart => exact ⟨0, d.size - 1, (d.size : Int) - 1, d, 0, rfl, rfl, fun h => ⟨by omega, by omega⟩, fun h => by omega, by omega, rfl, (putRow_self encU w blk off d hH).symm, rfl⟩
  case round =>
    obtain ⟨i, jn, jz, dk, n, rfl, rfl, h1, h2, hk, hds, hwr, heq⟩ := hrel
    by_cases hlt : (i : Int) < jz
    · obtain ⟨rfl, hjn⟩ := h1 hlt
      have hij : i < jn := by omega
      have hid : i < d.size := by omega
      have hid2 : (i : Int) < (d.size : Int) := by omega
      have hjd2 : (jn : Int) < (d.size : Int) := by omega
      have hi0 : (0 : Int) ≤ (i : Int) := by omega
      have hj0 : (0 : Int) ≤ (jn : Int) := by omega
      have hHk : Holds encU wr blk off dk := by rw [hwr]; exact holds_putRow encU _ blk off d dk (holds_ahead encU w n blk off d hH) hds
      obtain ⟨ci, fi⟩ := hHk i (by omega)
      obtain ⟨cj, fj⟩ := hHk jn (by omega)
      have A : Aside (wr = putRow encU (Sort.ahead w n) blk off dk) := hwr
      clear hwr hHk hH h1 h2
      go_wp2_with fail
      go_region_o
      go_wp2
      go_roundg (jn - 1 - (i + 1))
      case measure => omega
      case rel =>
        rw [reverseLoop, if_pos hij] at heq
        exact ⟨i + 1, jn - 1, (jn : Int) - 1, swp dk i jn, n + 1, by simp, rfl, fun h => ⟨by omega, by omega⟩, fun h => by omega, Nat.le_refl _, by rw [size_swp]; exact hds,
          swap_world encU (by omega) (by omega) A.out (by first | rfl | simp [getElem!_pos, show jn < dk.size by omega]) (by first | rfl | simp [getElem!_pos, show i < dk.size by omega]), heq⟩
    · have hnot := h2 hlt
      go_wp2
      go_end0
      refine ⟨rfl, n, ?_⟩
      rw [reverseLoop, if_neg hnot] at heq
      rw [← Lib.reverseLoop_reverse, ← heq]
theorem rev_any (B g n c : Nat) (l : Bs) (w : World) (h : OwnB w B g n c l) (hn : n ≤ maxLen) :
    Calls Try.prog 75 #[.slice (some ⟨g, 0, none⟩) n c] w fun e w' => e = .returned (.tuple #[]) ∧ OwnB w' B g n c l.reverse ∧ Below B w w' := by
  have hl := h.len
  have h1 := rev_arr g 0 c l.toArray w h.holds (by unfold maxLen at hn; simpa [hl] using hn)
  have e : l.toArray.size = n := by simpa using hl
  rw [e] at h1
  refine h1.mono ?_
  rintro _ w' ⟨rfl, k, rfl⟩
  obtain ⟨cur, hB, hb, hnc, hcm, hcs, ht⟩ := h.blk
  have hheap : (putRow encU (Sort.ahead w k) g 0 l.toArray.reverse).heap[g]? = some (.cells (putCells encU 0 l.toArray.reverse cur) 5 (0, 0)) := by
    simp [putRow, mapBlock, Sort.ahead, Array.getElem?_modify, hb, onCells]
  refine ⟨rfl, ⟨by simp [hl], .inr ⟨g, c, _, rfl, hB, hheap, hnc, hcm, by simp [putCells, hcs], ?_⟩⟩, ⟨rfl, rfl, rfl, by simp [putRow, mapBlock, Sort.ahead], fun b hbB => ?_⟩⟩
  · rw [Nat.mul_one]
    apply List.ext_getElem?
    intro j
    by_cases hj : j < n
    · rw [List.getElem?_take_of_lt hj, Array.getElem?_toList]
      simp [putCells, hj, hl, show j < cur.size by omega]
    · rw [List.getElem?_take_eq_none (by omega), List.getElem?_eq_none (by simp; omega)]
  · have hgb : g ≠ b := by omega
    simp [putRow, mapBlock, Sort.ahead, Array.getElem?_modify, hgb]
end Go.Proofs.Ytnofbjcikfofgaa
