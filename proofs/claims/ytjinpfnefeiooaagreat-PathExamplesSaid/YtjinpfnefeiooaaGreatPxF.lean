/- A part of the proof. -/
import Derived.Deep.Cut
import Derived.Test.YtjinpfnefeiooaaGreatAwake27
import Derived.Test.YtjinpfnefeiooaaGreatRefR
import Derived.Test.YtjinpfnefeiooaaGreatLexFT
namespace Go.Proofs.YtjinpfnefeiooaaGreat
open Go.RowKit

def U.zero : U := ⟨0, 0, 0, 0, 0, 0, 0, 0, []⟩
def U.pxOn (u : U) : U := { u with on := 1, up := 3 }
def U.pxFree (u : U) : U := { u with start := 0, idle := 0, mn := 0, up := 1, down := 1 }
def U.six : U := ⟨6, 0, 0, 0, 0, 0, 0, 0, []⟩
theorem px_err : U.zero.check 6 = 4 ∧ U.zero.profE (ratsOf [1, 2, 3, 4, 5, 6, 7, 8, 9]) [] = 4 ∧ exU.profE (ratsOf [1, 2, 3, 4, 5, 6, 7, 8, 9]) [] = 5 ∧ exU.profE (ratsOf [1]) [] = 3 ∧ exU.profE (ratsOf [1, 1, 1]) [true, false, true] = 3 ∧ exU.pchk (ratsOf [1, 2, 3, 4, 5, 6, 7, 8, 9]).length = 5 ∧ U.six.pchk ([] : List Rat).length = 1 := by decide +kernel
theorem px_prof : exU.profE (ratsOf [2, 4, 1]) [false, true, true] = 0 ∧ exU.profV (ratsOf [2, 4, 1]) [false, true, true] = ((8 : Int) : Rat) := by decide +kernel
theorem px_ok : exU.ok = true ∧ exU.pxOn.ok = true ∧ exU.pxFree.ok = true := by decide +kernel
theorem px_goes1 : (exU.path (ratsOf []) exU.init = [] ∧ (exU.dp (ratsOf []) exU.init).v = (0 : Int)) := by decide +kernel
theorem px_goes2 : (exU.pxOn.path (ratsOf [-9, -9, -9]) exU.pxOn.init = [true, true, false] ∧ (exU.pxOn.dp (ratsOf [-9, -9, -9]) exU.pxOn.init).v = (-46 : Int)) := by decide +kernel
theorem px_goes3 : (exU.pxFree.path (ratsOf [1, 1, 1]) exU.pxFree.init = [false, false, false] ∧ (exU.pxFree.dp (ratsOf [1, 1, 1]) exU.pxFree.init).v = (0 : Int)) := by decide +kernel
theorem px_goes4 : (exU.pxFree.path (ratsOf [2, 0, 2]) exU.pxFree.init = [true, false, true] ∧ (exU.pxFree.dp (ratsOf [2, 0, 2]) exU.pxFree.init).v = (10 : Int)) := by decide +kernel
theorem px_goes5 : (exU.path (ratsOf [9, 9, 9, 9, 9, 9, 9, 9]) exU.init = [true, true, true, true, true, true, true, true] ∧ (exU.dp (ratsOf [9, 9, 9, 9, 9, 9, 9, 9]) exU.init).v = (483 : Int)) := by decide +kernel
theorem px_gives1 : (exU.hq (qOf 7 2) = 9 ∧ exU.hp (qOf 7 2) = qOf 23 2) ∧ (exU.hq (qOf 1 2) = 2 ∧ exU.hp (qOf 1 2) = ((-4 : Int) : Rat)) ∧ (exU.pxFree.hq ((1 : Int) : Rat) = 0 ∧ exU.pxFree.hp ((1 : Int) : Rat) = 0) := by decide +kernel
theorem UBox.st1 {w w' : World} {g : Nat} {u : U} {A : Option Addr} {n c : Nat} {z : Int} (h : UBox w g u A n c) (hp : PutVs g 1 [.int .i64 z] w w') : UBox w' g { u with mn := z } A n c := by
 obtain ⟨h0, h1, h2, h3, h4, h5, h6, h7, h8⟩ := h
 have e : ∀ i, (i < 1 ∨ 1 + 1 ≤ i) → w'.cell? ⟨g, i, none⟩ = w.cell? ⟨g, i, none⟩ := fun i hi => hp.far i (by simp; omega)
 exact ⟨(e 0 (by omega)).trans h0, by simpa using hp.here 0 _ rfl, (e 2 (by omega)).trans h2, (e 3 (by omega)).trans h3, (e 4 (by omega)).trans h4, (e 5 (by omega)).trans h5, (e 6 (by omega)).trans h6, (e 7 (by omega)).trans h7, (e 8 (by omega)).trans h8⟩
theorem UBox.st3 {w w' : World} {g : Nat} {u : U} {A : Option Addr} {n c : Nat} {z : Int} (h : UBox w g u A n c) (hp : PutVs g 3 [.int .i64 z] w w') : UBox w' g { u with up := z } A n c := by
 obtain ⟨h0, h1, h2, h3, h4, h5, h6, h7, h8⟩ := h
 have e : ∀ i, (i < 3 ∨ 3 + 1 ≤ i) → w'.cell? ⟨g, i, none⟩ = w.cell? ⟨g, i, none⟩ := fun i hi => hp.far i (by simp; omega)
 exact ⟨(e 0 (by omega)).trans h0, (e 1 (by omega)).trans h1, (e 2 (by omega)).trans h2, by simpa using hp.here 0 _ rfl, (e 4 (by omega)).trans h4, (e 5 (by omega)).trans h5, (e 6 (by omega)).trans h6, (e 7 (by omega)).trans h7, (e 8 (by omega)).trans h8⟩
theorem UBox.st4 {w w' : World} {g : Nat} {u : U} {A : Option Addr} {n c : Nat} {z : Int} (h : UBox w g u A n c) (hp : PutVs g 4 [.int .i64 z] w w') : UBox w' g { u with down := z } A n c := by
 obtain ⟨h0, h1, h2, h3, h4, h5, h6, h7, h8⟩ := h
 have e : ∀ i, (i < 4 ∨ 4 + 1 ≤ i) → w'.cell? ⟨g, i, none⟩ = w.cell? ⟨g, i, none⟩ := fun i hi => hp.far i (by simp; omega)
 exact ⟨(e 0 (by omega)).trans h0, (e 1 (by omega)).trans h1, (e 2 (by omega)).trans h2, (e 3 (by omega)).trans h3, by simpa using hp.here 0 _ rfl, (e 5 (by omega)).trans h5, (e 6 (by omega)).trans h6, (e 7 (by omega)).trans h7, (e 8 (by omega)).trans h8⟩
theorem UBox.st5 {w w' : World} {g : Nat} {u : U} {A : Option Addr} {n c : Nat} {z : Int} (h : UBox w g u A n c) (hp : PutVs g 5 [.int .i64 z] w w') : UBox w' g { u with start := z } A n c := by
 obtain ⟨h0, h1, h2, h3, h4, h5, h6, h7, h8⟩ := h
 have e : ∀ i, (i < 5 ∨ 5 + 1 ≤ i) → w'.cell? ⟨g, i, none⟩ = w.cell? ⟨g, i, none⟩ := fun i hi => hp.far i (by simp; omega)
 exact ⟨(e 0 (by omega)).trans h0, (e 1 (by omega)).trans h1, (e 2 (by omega)).trans h2, (e 3 (by omega)).trans h3, (e 4 (by omega)).trans h4, by simpa using hp.here 0 _ rfl, (e 6 (by omega)).trans h6, (e 7 (by omega)).trans h7, (e 8 (by omega)).trans h8⟩
theorem UBox.st6 {w w' : World} {g : Nat} {u : U} {A : Option Addr} {n c : Nat} {z : Int} (h : UBox w g u A n c) (hp : PutVs g 6 [.int .i64 z] w w') : UBox w' g { u with idle := z } A n c := by
 obtain ⟨h0, h1, h2, h3, h4, h5, h6, h7, h8⟩ := h
 have e : ∀ i, (i < 6 ∨ 6 + 1 ≤ i) → w'.cell? ⟨g, i, none⟩ = w.cell? ⟨g, i, none⟩ := fun i hi => hp.far i (by simp; omega)
 exact ⟨(e 0 (by omega)).trans h0, (e 1 (by omega)).trans h1, (e 2 (by omega)).trans h2, (e 3 (by omega)).trans h3, (e 4 (by omega)).trans h4, (e 5 (by omega)).trans h5, by simpa using hp.here 0 _ rfl, (e 7 (by omega)).trans h7, (e 8 (by omega)).trans h8⟩
theorem UBox.st8 {w w' : World} {g : Nat} {u : U} {A : Option Addr} {n c : Nat} {z : Int} (h : UBox w g u A n c) (hp : PutVs g 8 [.int .i64 z] w w') : UBox w' g { u with on := z } A n c := by
 obtain ⟨h0, h1, h2, h3, h4, h5, h6, h7, h8⟩ := h
 have e : ∀ i, (i < 8 ∨ 8 + 1 ≤ i) → w'.cell? ⟨g, i, none⟩ = w.cell? ⟨g, i, none⟩ := fun i hi => hp.far i (by simp; omega)
 exact ⟨(e 0 (by omega)).trans h0, (e 1 (by omega)).trans h1, (e 2 (by omega)).trans h2, (e 3 (by omega)).trans h3, (e 4 (by omega)).trans h4, (e 5 (by omega)).trans h5, (e 6 (by omega)).trans h6, (e 7 (by omega)).trans h7, by simpa using hp.here 0 _ rfl⟩
inductive PK where
 | vk (k : VK)
 | tup (q : Rat) (e : Int)
 | tup3 (e : Int)
 | aggv
 | cell (B : Nat)
def PK.holds : PK → Value → World → Prop
 | .vk k, v, w => k.holds v w
 | .tup q e, v, w => ∃ s A n c t B m d, v = .tuple #[.agg #[.bool s, .slice A n c, .bool t, .slice B m d], .int .i64 e] ∧ QCan w 0 s A n c t B m d q
 | .tup3 e, v, _ => ∃ v0 s A n c t B m d, v = .tuple #[v0, .agg #[.bool s, .slice A n c, .bool t, .slice B m d], .int .i64 e]
 | .aggv, v, _ => ∃ s A n c t B m d, v = .agg #[.bool s, .slice A n c, .bool t, .slice B m d]
 | .cell B, v, w => ∃ g, v = .pointer (some ⟨g, 0, none⟩) ∧ B ≤ g ∧ Cell4 w g (.bool false) (.slice none 0 0) (.bool false) (.slice none 0 0) ∧ ∃ t, w.heap[g]? = some (.cells #[.bool false, .slice none 0 0, .bool false, .slice none 0 0] t (0, 0))
theorem PK.mono {k : PK} {v : Value} {w w' : World} (h : k.holds v w) (hE : Ext w w') : k.holds v w' := by
 cases k with
 | vk k => exact VK.mono h hE
 | tup q e => obtain ⟨s, A, n, c, t, B, m, d, h1, h2⟩ := h; exact ⟨s, A, n, c, t, B, m, d, h1, h2.ext hE⟩
 | tup3 e => exact h
 | aggv => exact h
 | cell B => obtain ⟨g, h1, h2, h3, t, h4⟩ := h; exact ⟨g, h1, h2, h3.ext hE, t, (hE.block g h3.2.2).trans h4⟩
def PxS (w0 : World) (vp _ : Value) (_ w' : World) : Prop := ∃ g, vp = .pointer (some ⟨g, 0, none⟩) ∧ Ext w0 w'
theorem there4 {w : World} {g : Nat} {v0 v1 v2 v3 : Value} (h : Cell4 w g v0 v1 v2 v3) : w.there g 0 4 := fun j hj => by
 obtain ⟨⟨a0, a1, a2, a3⟩, ⟨b0, b1, b2, b3⟩, _⟩ := h
 match j, hj with
 | 0, _ => exact ⟨by rw [a0]; rfl, b0⟩
 | 1, _ => exact ⟨by rw [a1]; rfl, b1⟩
 | 2, _ => exact ⟨by rw [a2]; rfl, b2⟩
 | 3, _ => exact ⟨by rw [a3]; rfl, b3⟩
theorem put4c {w w' : World} {g : Nat} {v0 v1 v2 v3 u0 u1 u2 u3 : Value} (h : Cell4 w g v0 v1 v2 v3) (hp : PutVs g 0 [u0, u1, u2, u3] w w') : Cell4 w' g u0 u1 u2 u3 := by
 obtain ⟨-, ⟨b0, b1, b2, b3⟩, hl⟩ := h
 have e : ∀ i v, [u0, u1, u2, u3][i]? = some v → w'.cell? ⟨g, i, none⟩ = some v := fun i v hv => by simpa using hp.here i v hv
 exact ⟨⟨e 0 _ rfl, e 1 _ rfl, e 2 _ rfl, e 3 _ rfl⟩, ⟨by rw [hp.touch.frozen]; exact b0, by rw [hp.touch.frozen]; exact b1, by rw [hp.touch.frozen]; exact b2, by rw [hp.touch.frozen]; exact b3⟩, by rw [hp.touch.size]; exact hl⟩
theorem words_off {w : World} {g : Nat} {t : TypeId} (h : w.heap[g]? = some (.cells #[.bool false, .slice none 0 0, .bool false, .slice none 0 0] t (0, 0))) {A : Option Addr} {n : Nat} {xs : List Nat} (hw : WordsAt w A n xs) : Away g (g + 1) A n := fun hn ad ha => by
 obtain ⟨b, off, e, hl, hc⟩ := hw.2.2 hn
 have h0 := hc 0 hn
 rw [e] at ha
 cases ha
 by_cases hb : b = g
 ·subst hb
  exfalso
  simp [World.cell?, h] at h0
  revert h0
  generalize off = o
  match o with
  | 0 => simp
  | 1 => simp
  | 2 => simp
  | 3 => simp
  | k + 4 => simp
 ·show b < g ∨ g + 1 ≤ b
  omega
def PxT (w0 : World) (q : Rat) (vp _ : Value) (_ w' : World) : Prop := ∃ g s A n c t B m d, vp = .pointer (some ⟨g, 0, none⟩) ∧ Ext w0 w' ∧ Cell4 w' g (.bool s) (.slice A n c) (.bool t) (.slice B m d) ∧ QCan w' 0 s A n c t B m d q
theorem ints_litC (w : World) (t : TypeId) (cs : Array Value) (zs : List Int) (h : cs = (zs.map (Value.int .i64)).toArray) : IntsAt (w.alloc (.cells cs t)) (some ⟨w.heap.size, 0, none⟩) zs.length zs := by
 subst h
 exact ints_lit w zs t
end Go.Proofs.YtjinpfnefeiooaaGreat
