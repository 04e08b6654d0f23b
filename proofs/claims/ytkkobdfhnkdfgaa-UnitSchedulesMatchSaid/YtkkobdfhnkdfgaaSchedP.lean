/- Plain words for the enumeration of schedules. -/
import Derived.Test.YtkkobdfhnkdfgaaUnitC
import Derived.Test.YtkkobdfhnkdfgaaMem
namespace Go.Proofs.Ytkkobdfhnkdfgaa
open Go.RowKit

/-- All feasible schedules of n hours from a state, in order. -/
def U.exts (u : U) : Nat → Int → List (List Bool)
  | 0, _ => [[]]
  | n + 1, s => (if u.next s false = 0 then [] else (u.exts n (u.next s false)).map (false :: ·)) ++ (if u.next s true = 0 then [] else (u.exts n (u.next s true)).map (true :: ·))
/-- The header of a schedule's slice. -/
abbrev hdr (hrs : Nat) (p : Nat × Nat) : Value := .slice (some ⟨p.1, 0, none⟩) hrs p.2
abbrev U.arr (u : U) (A : Option Addr) (n c : Nat) : Array Value :=
  #[.int .i64 u.bus, .int .i64 u.mn, .slice A n c, .int .i64 u.up, .int .i64 u.down, .int .i64 u.start, .int .i64 u.idle, .int .i64 u.spin, .int .i64 u.on]
abbrev closV (bH bA bR bU bX : Nat) : Value :=
  .func (.func 29) #[] #[.pointer (some ⟨bH, 0, none⟩), .pointer (some ⟨bA, 0, none⟩), .pointer (some ⟨bR, 0, none⟩), .pointer (some ⟨bU, 0, none⟩), .pointer (some ⟨bX, 0, none⟩)]

/-- The list of schedules that a slice value of the call's own holds. -/
def Lists (w : World) (B1 hrs : Nat) (vA : Value) (L : List (List Bool)) : Prop :=
  ∃ FC : List (Nat × Nat), w.ownsRow B1 32 1 vA L.length (FC.map (hdr hrs)) ∧ (FC.map (·.1)).Pairwise (· < ·) ∧ FC.length = L.length ∧
    ∀ (i : Nat) (p : Nat × Nat), FC[i]? = some p → ∃ xs : List Bool, L[i]? = some xs ∧ w.ownsRow B1 4 1 (hdr hrs p) hrs (xs.map Value.bool)

structure SInv (w : World) (B1 hrs : Nat) (u : U) (A : Option Addr) (n c : Nat) (bH bA bR bU bX rb : Nat) (vA : Value) (cur : List Bool) (L : List (List Bool)) : Prop where
  kH : Blk w bH 3 #[.int .i64 hrs]
  kA : Blk w bA 27 #[vA]
  kR : Blk w bR 32 #[.slice (some ⟨rb, 0, none⟩) hrs hrs]
  kU : Blk w bU 24 (u.arr A n c)
  kX : Blk w bX 48 #[closV bH bA bR bU bX]
  kB : Blk w rb 4 (cur.map Value.bool).toArray
  cl : cur.length = hrs
  lists : Lists w B1 hrs vA L
  hR : bR < B1
  hB : rb < B1
  hS : B1 ≤ w.heap.size

/-- What the closure may turn: the variable all, the row, and the row of schedules. -/
structure Fr (w w' : World) (bA rb : Nat) (vA : Value) : Prop where
  os : w'.os = w.os
  tape : w'.tape = w.tape
  output : w'.output = w.output
  size : w.heap.size ≤ w'.heap.size
  block : ∀ k, k < w.heap.size → k ≠ bA → k ≠ rb → vA.ownBlock ≠ some k → w'.heap[k]? = w.heap[k]?
def Grew (w : World) (vA vA' : Value) : Prop := vA'.ownBlock = vA.ownBlock ∨ ∃ g, w.heap.size ≤ g ∧ vA'.ownBlock = some g
theorem Fr.refl (w : World) (bA rb : Nat) (vA : Value) : Fr w w bA rb vA := ⟨rfl, rfl, rfl, Nat.le_refl _, fun _ _ _ _ _ => rfl⟩
theorem Fr.trans {w w1 w2 : World} {bA rb : Nat} {vA vA1 : Value} (h : Fr w w1 bA rb vA) (hg : Grew w vA vA1) (k : Fr w1 w2 bA rb vA1) : Fr w w2 bA rb vA := by
  refine ⟨k.os.trans h.os, k.tape.trans h.tape, k.output.trans h.output, Nat.le_trans h.size k.size, fun i hi h1 h2 h3 => ?_⟩
  refine (k.block i (Nat.lt_of_lt_of_le hi h.size) h1 h2 ?_).trans (h.block i hi h1 h2 h3)
  rcases hg with e | ⟨g, hg, e⟩
  · rw [e]; exact h3
  · rw [e]; intro e2; injection e2 with e2; omega
theorem Grew.trans {w w1 : World} {a b c : Value} (hs : w.heap.size ≤ w1.heap.size) (h : Grew w a b) (k : Grew w1 b c) : Grew w a c := by
  rcases k with e | ⟨g, hg, e⟩
  · rcases h with e2 | ⟨g2, hg2, e2⟩
    · exact .inl (e.trans e2)
    · exact .inr ⟨g2, hg2, e.trans e2⟩
  · exact .inr ⟨g, by omega, e⟩
theorem Fr.of_ext {w w' : World} {bA rb : Nat} {vA : Value} (h : Ext w w') : Fr w w' bA rb vA := ⟨h.os, h.tape, h.output, h.size, fun k hk _ _ _ => h.block k hk⟩

theorem Lists.keep {w w' : World} {B1 hrs : Nat} {vA : Value} {L : List (List Bool)} (h : Lists w B1 hrs vA L) (hk : ∀ g, B1 ≤ g → g < w.heap.size → w'.heap[g]? = w.heap[g]?) : Lists w' B1 hrs vA L := by
  obtain ⟨FC, h1, h2, h3, h4⟩ := h
  refine ⟨FC, own_keep h1 fun g hg => hk g (own_lt h1 hg).2 (own_lt h1 hg).1, h2, h3, fun i p hp => ?_⟩
  obtain ⟨xs, e, h5⟩ := h4 i p hp
  exact ⟨xs, e, own_keep h5 fun g hg => hk g (own_lt h5 hg).2 (own_lt h5 hg).1⟩

theorem SInv.ext {w w' : World} {B1 hrs : Nat} {u : U} {A : Option Addr} {n c : Nat} {bH bA bR bU bX rb : Nat} {vA : Value} {cur : List Bool} {L : List (List Bool)}
    (h : SInv w B1 hrs u A n c bH bA bR bU bX rb vA cur L) (hb : Ext w w') : SInv w' B1 hrs u A n c bH bA bR bU bX rb vA cur L :=
  ⟨h.kH.keep (hb.block _ h.kH.lt), h.kA.keep (hb.block _ h.kA.lt), h.kR.keep (hb.block _ h.kR.lt), h.kU.keep (hb.block _ h.kU.lt), h.kX.keep (hb.block _ h.kX.lt), h.kB.keep (hb.block _ h.kB.lt), h.cl,
   h.lists.keep fun g _ hg => hb.block g hg, h.hR, h.hB, Nat.le_trans h.hS hb.size⟩
theorem SInv.put {w : World} {B1 hrs : Nat} {u : U} {A : Option Addr} {n c : Nat} {bH bA bR bU bX rb : Nat} {vA : Value} {cur : List Bool} {L : List (List Bool)}
    (h : SInv w B1 hrs u A n c bH bA bR bU bX rb vA cur L) (i : Nat) (b : Bool) : SInv (w.setCell ⟨rb, i, none⟩ (.bool b)) B1 hrs u A n c bH bA bR bU bX rb vA (cur.set i b) L := by
  refine ⟨h.kH.far (h.kH.ne h.kB (by decide)) _, h.kA.far (h.kA.ne h.kB (by decide)) _, h.kR.far (h.kR.ne h.kB (by decide)) _, h.kU.far (h.kU.ne h.kB (by decide)) _, h.kX.far (h.kX.ne h.kB (by decide)) _, ?_, by simp [h.cl],
    h.lists.keep fun g hg _ => Below.heap_setCell w _ _ g (by have := h.hB; simp; omega), h.hR, h.hB, by simpa [World.setCell] using h.hS⟩
  have := h.kB.put i (.bool b)
  simpa [List.map_set] using this
end Go.Proofs.Ytkkobdfhnkdfgaa
