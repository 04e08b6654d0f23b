/- A part of the proof. -/
import Derived.RangeFuncNested
import Derived.RangeFuncBound
import Derived.RangeFuncCalls
import Derived.RangeFuncLeaves
import Derived.Shelf.Abstract
import Derived.OwnWalkIn
import Derived.TacticsInMore
import Derived.LoopNIn
import Derived.LoopIn
import Derived.RangeFuncBox
import Derived.OwnWalk
import Derived.Maps.AppendAt
import Derived.Deep.AppendLies
import Derived.RegionTactic
import Derived.Deep.RegionHeld3
import Derived.Deep.RegionLaw
import Derived.Test.YtjinpfnefeiooaaGreatWordsC
import Derived.Test.YtjinpfnefeiooaaGreatBase
namespace Go.Proofs.YtjinpfnefeiooaaGreat
open Go.RowKit Go.Shelf
attribute [local go_sem] Oper.semAt_some
section
variable {P : Program} {ops : Array Oper} {Q : Exit → Act → World → Prop} {md : Region.Mode}
def noDefer (o : Oper) : Bool := match o.op with
 | .defer _ => false
 | _ => true
theorem wpIn_of_wpR {o : Oper} (hd : noDefer o = true) {l n : Nat} {a : Act} {w : World} {K K' : Act → World → Prop} (hK : ∀ a w, K a w → K' a w) (h : o.wp P a w K noOut) : o.wpIn (Fence.wide.inRound l) n P a w K' Q := by
 refine ⟨fun _ _ => trivial, ?_⟩
 have hs : o.semAt (some l) a.eval = execOp a.eval o := by
  unfold Oper.semAt
  split
  ·rename_i c h1 h2; simp [noDefer, h2] at hd
  ·rfl
 show o.uponIn _ n P a K' Q ((o.semAt (some l) a.eval).run P w)
 rw [hs]
 unfold Oper.wp at h
 generalize (execOp a.eval o).run P w = r at *
 cases r with
 | ok x w' =>
  cases x <;> simp only [Oper.upon] at h <;> simp only [Oper.uponIn]
  case value v => exact hK _ _ h
  case skip => exact hK _ _ h
  case defer d => exact hK _ _ h
  case enter f args =>
   refine ⟨fun hh => (by cases hh), CallsIn.inRound l (callsIn_wide.2 (h.mono fun e w'' he => ?_))⟩
   cases e with
   | returned v => exact hK _ _ he
   | panicked c => exact he.elim
   | outgrown => obtain ⟨_, _, hf⟩ := he; exact hf.elim
  case row row args => exact ⟨fun hh => (by cases hh), fun c cs _ => let ⟨v, w'', r, st⟩ := h c cs; ⟨v, w'', hK _ _ r, stepsIn_wide.2 st⟩⟩
 | halt x w' => cases x <;> simp only [Oper.upon] at h <;> exact h.elim
theorem wpAnyIn_of_L {C : World → Prop} {l n : Nat} (hd : ops.all noDefer = true) : ∀ (fuel : Nat) (listed : Array Bool) (a : Act) (w : World), Closed md ops listed → (∀ k ok, ops[k]? = some ok → stillOp ok = true → listed.getD k true = false → C w) → wpAnyL P md ops C Q fuel listed a w → wpAnyIn (Fence.wide.inRound l) n P md ops Q fuel listed a w
 | 0, _, _, _, _, _, h => h
 | fuel + 1, listed, a, w, hcl, hC, h => ⟨h.1, fun i hi => by
   have h2 := h.2 i hi
   have hun : ∀ {k : Nat}, (listed.setIfInBounds i true).getD k true = false → listed.getD k true = false := fun {k} hk => by
    by_cases hik : i = k
    ·subst hik; exact (mem_ready.1 hi).1
    ·rwa [getD_set_ne true hik] at hk
   unfold lOp at h2
   unfold wpOpIn
   split
   ·rename_i ho; simp only [ho] at h2; exact wpAnyIn_of_L hd fuel _ _ _ (hcl.set hi) (fun k ok hk hs hu => hC k ok hk hs (hun hu)) h2
   ·rename_i o ho
    have hdo : noDefer o = true := Array.all_eq_true_iff_forall_mem.1 hd o (Array.mem_of_getElem? ho)
    simp only [ho] at h2
    by_cases hw : Region.wanted o (yielded ops a.tmps) = true
    ·simp only [hw, if_true] at h2 ⊢
     by_cases hs : stillOp o = true
     ·simp only [hs, if_true] at h2
      obtain ⟨v, h3, h4⟩ := h2
      refine wpIn_of_wpR hdo (K := fun a' w' => a' = a.put o.dst v ∧ w' = w) (fun a' w' ⟨e1, e2⟩ => ?_) ?_
      ·subst e1; subst e2
       exact wpAnyIn_of_L hd fuel _ _ _ (hcl.set hi) (fun k ok hk hs hu => hC k ok hk hs (hun hu)) h4
      ·unfold Oper.wp
       rw [h3 w (hC i o ho hs (mem_ready.1 hi).1)]
       exact ⟨rfl, rfl⟩
     ·simp only [hs] at h2
      exact wpIn_of_wpR hdo (fun a w ⟨h1, h3⟩ => wpAnyIn_of_L hd fuel _ a w (hcl.set hi) (fun k ok hk hs hu => h1 (not_last hcl hi ho hk hs (hun hu))) h3) h2
    ·simp only [hw] at h2 ⊢; exact ⟨fun _ _ => trivial, wpAnyIn_of_L hd fuel _ _ _ (hcl.set hi) (fun k ok hk hs hu => hC k ok hk hs (hun hu)) h2⟩⟩
theorem wpIn_region_lex {C : World → Prop} {id l0 n : Nat} {a : Act} {w : World} {l : List Oper} (hm : P.follows .mixedOrders = true) (hB : lexMB .any l.toArray = true) (hd : l.toArray.all noDefer = true) (hC : C w.drew)
  (h : wpLex P .any l.toArray C Q l a w.drew) : (Code.region id l.toArray true).wpIn (Fence.wide.inRound l0) n P Q a w := by
 simp only [lexMB, Bool.and_eq_true] at hB
 refine wpIn_region_any hm (wpAnyIn_of_L hd _ _ _ _ (closed_none _) (fun _ _ _ _ _ => hC) ?_)
 have := wpAnyL_lex (C := C) (Q := Q) (md := .any) hB.1 l 0 (Array.replicate l.toArray.size false) a w.drew (closed_none _) (by simp) (by simpa using hB.2) h
 simpa using this
end

abbrev Pair := { p : Nat × Nat // p.1 < 4294967296 ∧ p.2 < 4294967296 }
abbrev encP (p : Pair) : Array Value := #[.int .u64 (p.1.1 : Int), .int .u64 (p.1.2 : Int)]
def pairsTo {xs ys : List Nat} (hx : Words xs) (hy : Words ys) (k : Nat) : List Pair := (List.range k).map fun i => ⟨(xs.getD i 0, ys.getD i 0), hx.getD i, hy.getD i⟩
theorem pairsTo_succ {xs ys : List Nat} (hx : Words xs) (hy : Words ys) (k : Nat) : pairsTo hx hy (k + 1) = pairsTo hx hy k ++ [⟨(xs.getD k 0, ys.getD k 0), hx.getD k, hy.getD k⟩] := by simp [pairsTo, List.range_succ]
theorem pairsTo_length {xs ys : List Nat} (hx : Words xs) (hy : Words ys) (k : Nat) : (pairsTo hx hy k).length = k := by simp [pairsTo]
structure Kp (n0 p q : Nat) (W W' : World) : Prop where
 size : W.heap.size ≤ W'.heap.size
 old : ∀ k, k < n0 → W'.heap[k]? = W.heap[k]?
 p : W'.heap[p]? = W.heap[p]?
 q : W'.heap[q]? = W.heap[q]?
theorem Kp.refl (n0 p q : Nat) (W : World) : Kp n0 p q W W := ⟨Nat.le_refl _, fun _ _ => rfl, rfl, rfl⟩
theorem Kp.trans {n0 p q : Nat} {X Y Z : World} (h : Kp n0 p q X Y) (k : Kp n0 p q Y Z) : Kp n0 p q X Z := ⟨Nat.le_trans h.size k.size, fun i hi => (k.old i hi).trans (h.old i hi), k.p.trans h.p, k.q.trans h.q⟩
theorem Kp.words {n0 p q : Nat} {W W' : World} (h : Kp n0 p q W W') {A : Option Addr} {n : Nat} {xs : List Nat} (hA : 0 < n → ∀ b off, A = some ⟨b, off, none⟩ → b < n0) (hx : WordsAt W A n xs) : WordsAt W' A n xs := by
 refine ⟨hx.1, hx.2.1, fun hn => ?_⟩
 obtain ⟨b, off, e, hlt, hc⟩ := hx.2.2 hn
 exact ⟨b, off, e, Nat.lt_of_lt_of_le hlt h.size, fun i hi => (World.cell?_of_block (h.old b (hA hn b off e))).trans (hc i hi)⟩
set_option maxRecDepth 100000 in
set_option maxHeartbeats 2000000 in
theorem pairs1_m (l : Nat) (A : Option Addr) (n c : Nat) (xs : List Nat) (B : Option Addr) (m d : Nat) (ys : List Nat) (p q n0 : Nat) (hx : Words xs) (hy : Words ys) (hn : n ≤ 1073741824) (hm : m ≤ 1073741824) (hnm : n < m)
  (hA : 0 < n → ∀ b off, A = some ⟨b, off, none⟩ → b < n0) (hB : 0 < m → ∀ b off, B = some ⟨b, off, none⟩ → b < n0) (J Jx : List Pair → World → Prop)
  (hY : ∀ pre x W, J pre W → pre.length < m → YieldAt Fence.wide 1 Tryz.prog l (encP x) W fun e W' =>
   (e = .returned (.bool true) ∧ J (pre ++ [x]) W' ∧ Kp n0 p q W W') ∨ (e = .returned (.bool false) ∧ Jx (pre ++ [x]) W'))
  (W : World) (hp : W.heap[p]? = some (.cells #[.slice A n c] 25 (0, 0))) (hq : W.heap[q]? = some (.cells #[.slice B m d] 25 (0, 0))) (hwx : WordsAt W A n xs) (hwy : WordsAt W B m ys) (h0 : J [] W) :
  CallsIn Fence.wide 2 Tryz.prog 149 #[.func (.yield l) #[] #[], .pointer (some ⟨p, 0, none⟩), .pointer (some ⟨q, 0, none⟩)] W fun e W' => (∃ v, e = .returned v) ∧
   ((∃ zs, zs = pairsTo hx hy m ∧ J zs W') ∨ (∃ pre, True ∧ Jx pre W')) := by
 have c1 : W.cell? ⟨p, 0, none⟩ = some (.slice A n c) := by simp [World.cell?, hp]
 have c2 : W.cell? ⟨q, 0, none⟩ = some (.slice B m d) := by simp [World.cell?, hq]
 have HWX := LH hwx
 have HWY := LH hwy
 have HY := LH hY
 have H0 := LH h0
 clear hp hq hwx hwy hY h0
 refine callsIn_of_wp Tryz.func149 rfl trivial ?_ rfl
 simp only [Tryz.ntmps149, List.size_toArray, List.length_cons, List.length_nil, Nat.reduceAdd, Nat.reduceSub, Array.replicate_succ, Array.replicate_zero, List.push_toArray, List.append_toArray, List.nil_append, List.cons_append]
 gi_wp2
 gi_loopw [12] (fun i wr => ∃ k : Nat, k ≤ m ∧ i = .int .i64 k ∧ Hid (J (pairsTo hx hy k) wr) ∧ Kp n0 p q W wr) (fun i _ => m - (intOf i).toNat)
 case atStart => exact ⟨0, Nat.zero_le _, rfl, H0, Kp.refl _ _ _ _⟩
 case round =>
  obtain ⟨k, hk, rfl, HJ, hkp⟩ := hrel
  have d1 : wr.cell? ⟨p, 0, none⟩ = some (.slice A n c) := (World.cell?_of_block hkp.p).trans c1
  have d2 : wr.cell? ⟨q, 0, none⟩ = some (.slice B m d) := (World.cell?_of_block hkp.q).trans c2
  have HXr := LH (hkp.words hA HWX.out)
  have HYr := LH (hkp.words hB HWY.out)
  by_cases hlt : k < m
  ·have hbv : decide (k < m) = true := by simp; omega
   have hkm : k < m := hlt
   by_cases hkn : k < n
   ·skip
    obtain ⟨x, y, bx, by', ex, ey, hs⟩ : ∃ (x y : Nat) (h1 : x < 4294967296) (h2 : y < 4294967296), xs.getD k 0 = x ∧ ys.getD k 0 = y ∧ pairsTo hx hy (k + 1) = pairsTo hx hy k ++ [⟨(x, y), h1, h2⟩] := ⟨_, _, hx.getD k, hy.getD k, rfl, rfl, pairsTo_succ hx hy k⟩
    obtain ⟨bX, oX, rfl, hbX, hcX⟩ := HXr.out.2.2 (by omega)
    have cX := hcX k hkn
    rw [ex] at cX
    clear hcX ex
    have hbn : decide (k < n) = true := by simp; omega
    have h01 : (k : Int) < (n : Int) := by omega
    obtain ⟨bY, oY, rfl, hbY, hcY⟩ := HYr.out.2.2 (by omega)
    have cY := hcY k hkm
    rw [ey] at cY
    clear hcY ey
    have hbm : decide (k < m) = true := by simp; omega
    have h02 : (k : Int) < (m : Int) := by omega
    have h00 : (0 : Int) ≤ (k : Int) := by omega
    have HS := LH hs
    obtain ⟨fn, tmps, assign, body, hy1, hR⟩ := HY.out (pairsTo hx hy k) ⟨(x, y), bx, by'⟩ wr HJ.out (by rw [pairsTo_length]; omega)
    dsimp only [encP] at hy1
    have HR := LH hR
    clear hR hs
    gi_wp2
    refine HR.out.mono ?_
    rintro e W3 (⟨rfl, hJ3, hk3⟩ | ⟨rfl, hJx3⟩)
    ·have HJ3 := LH hJ3
     clear hJ3
     gi_wp2
     go_roundw
     case rel => exact ⟨k + 1, by omega, by go_num, by rw [HS.out]; exact HJ3, hkp.trans hk3⟩
     case measure => simp [intOf]; omega
    ·gi_wp2
     refine bodyPost_ret (results_none rfl _ _ _) rfl ?_
     exact ⟨⟨_, rfl⟩, .inr ⟨_, trivial, hJx3⟩⟩
   ·skip
    obtain ⟨x, y, bx, by', ex, ey, hs⟩ : ∃ (x y : Nat) (h1 : x < 4294967296) (h2 : y < 4294967296), xs.getD k 0 = x ∧ ys.getD k 0 = y ∧ pairsTo hx hy (k + 1) = pairsTo hx hy k ++ [⟨(x, y), h1, h2⟩] := ⟨_, _, hx.getD k, hy.getD k, rfl, rfl, pairsTo_succ hx hy k⟩
    obtain rfl : x = 0 := by rw [← ex]; simp [List.getD, show xs.length ≤ k by rw [HXr.out.1]; omega]
    clear ex
    have hbn : decide (k < n) = false := by simp; omega
    obtain ⟨bY, oY, rfl, hbY, hcY⟩ := HYr.out.2.2 (by omega)
    have cY := hcY k hkm
    rw [ey] at cY
    clear hcY ey
    have hbm : decide (k < m) = true := by simp; omega
    have h02 : (k : Int) < (m : Int) := by omega
    have h00 : (0 : Int) ≤ (k : Int) := by omega
    have HS := LH hs
    obtain ⟨fn, tmps, assign, body, hy1, hR⟩ := HY.out (pairsTo hx hy k) ⟨(0, y), bx, by'⟩ wr HJ.out (by rw [pairsTo_length]; omega)
    dsimp only [encP] at hy1
    simp only [Int.natCast_zero] at hy1
    have HR := LH hR
    clear hR hs
    gi_wp2
    refine HR.out.mono ?_
    rintro e W3 (⟨rfl, hJ3, hk3⟩ | ⟨rfl, hJx3⟩)
    ·have HJ3 := LH hJ3
     clear hJ3
     gi_wp2
     go_roundw
     case rel => exact ⟨k + 1, by omega, by go_num, by rw [HS.out]; exact HJ3, hkp.trans hk3⟩
     case measure => simp [intOf]; omega
    ·gi_wp2
     refine bodyPost_ret (results_none rfl _ _ _) rfl ?_
     exact ⟨⟨_, rfl⟩, .inr ⟨_, trivial, hJx3⟩⟩
  ·have hbv : decide (k < m) = false := by simp; omega
   have hkN : k = m := by omega
   have HJE := HJ.out
   rw [hkN] at HJE
   clear hkN
   gi_wp2
   go_end0
   exact ⟨⟨_, rfl⟩, .inl ⟨_, rfl, HJE⟩⟩
set_option maxRecDepth 100000 in
set_option maxHeartbeats 2000000 in
theorem pairs1_n (l : Nat) (A : Option Addr) (n c : Nat) (xs : List Nat) (B : Option Addr) (m d : Nat) (ys : List Nat) (p q n0 : Nat) (hx : Words xs) (hy : Words ys) (hn : n ≤ 1073741824) (hm : m ≤ 1073741824) (hnm : m ≤ n)
  (hA : 0 < n → ∀ b off, A = some ⟨b, off, none⟩ → b < n0) (hB : 0 < m → ∀ b off, B = some ⟨b, off, none⟩ → b < n0) (J Jx : List Pair → World → Prop)
  (hY : ∀ pre x W, J pre W → pre.length < n → YieldAt Fence.wide 1 Tryz.prog l (encP x) W fun e W' =>
   (e = .returned (.bool true) ∧ J (pre ++ [x]) W' ∧ Kp n0 p q W W') ∨ (e = .returned (.bool false) ∧ Jx (pre ++ [x]) W'))
  (W : World) (hp : W.heap[p]? = some (.cells #[.slice A n c] 25 (0, 0))) (hq : W.heap[q]? = some (.cells #[.slice B m d] 25 (0, 0))) (hwx : WordsAt W A n xs) (hwy : WordsAt W B m ys) (h0 : J [] W) :
  CallsIn Fence.wide 2 Tryz.prog 149 #[.func (.yield l) #[] #[], .pointer (some ⟨p, 0, none⟩), .pointer (some ⟨q, 0, none⟩)] W fun e W' => (∃ v, e = .returned v) ∧
   ((∃ zs, zs = pairsTo hx hy n ∧ J zs W') ∨ (∃ pre, True ∧ Jx pre W')) := by
 have c1 : W.cell? ⟨p, 0, none⟩ = some (.slice A n c) := by simp [World.cell?, hp]
 have c2 : W.cell? ⟨q, 0, none⟩ = some (.slice B m d) := by simp [World.cell?, hq]
 have HWX := LH hwx
 have HWY := LH hwy
 have HY := LH hY
 have H0 := LH h0
 clear hp hq hwx hwy hY h0
 refine callsIn_of_wp Tryz.func149 rfl trivial ?_ rfl
 simp only [Tryz.ntmps149, List.size_toArray, List.length_cons, List.length_nil, Nat.reduceAdd, Nat.reduceSub, Array.replicate_succ, Array.replicate_zero, List.push_toArray, List.append_toArray, List.nil_append, List.cons_append]
 gi_wp2
 gi_loopw [12] (fun i wr => ∃ k : Nat, k ≤ n ∧ i = .int .i64 k ∧ Hid (J (pairsTo hx hy k) wr) ∧ Kp n0 p q W wr) (fun i _ => n - (intOf i).toNat)
 case atStart => exact ⟨0, Nat.zero_le _, rfl, H0, Kp.refl _ _ _ _⟩
 case round =>
  obtain ⟨k, hk, rfl, HJ, hkp⟩ := hrel
  have d1 : wr.cell? ⟨p, 0, none⟩ = some (.slice A n c) := (World.cell?_of_block hkp.p).trans c1
  have d2 : wr.cell? ⟨q, 0, none⟩ = some (.slice B m d) := (World.cell?_of_block hkp.q).trans c2
  have HXr := LH (hkp.words hA HWX.out)
  have HYr := LH (hkp.words hB HWY.out)
  by_cases hlt : k < n
  ·have hbv : decide (k < n) = true := by simp; omega
   have hkn : k < n := hlt
   by_cases hkm : k < m
   ·skip
    obtain ⟨x, y, bx, by', ex, ey, hs⟩ : ∃ (x y : Nat) (h1 : x < 4294967296) (h2 : y < 4294967296), xs.getD k 0 = x ∧ ys.getD k 0 = y ∧ pairsTo hx hy (k + 1) = pairsTo hx hy k ++ [⟨(x, y), h1, h2⟩] := ⟨_, _, hx.getD k, hy.getD k, rfl, rfl, pairsTo_succ hx hy k⟩
    obtain ⟨bX, oX, rfl, hbX, hcX⟩ := HXr.out.2.2 (by omega)
    have cX := hcX k hkn
    rw [ex] at cX
    clear hcX ex
    have hbn : decide (k < n) = true := by simp; omega
    have h01 : (k : Int) < (n : Int) := by omega
    obtain ⟨bY, oY, rfl, hbY, hcY⟩ := HYr.out.2.2 (by omega)
    have cY := hcY k hkm
    rw [ey] at cY
    clear hcY ey
    have hbm : decide (k < m) = true := by simp; omega
    have h02 : (k : Int) < (m : Int) := by omega
    have h00 : (0 : Int) ≤ (k : Int) := by omega
    have HS := LH hs
    obtain ⟨fn, tmps, assign, body, hy1, hR⟩ := HY.out (pairsTo hx hy k) ⟨(x, y), bx, by'⟩ wr HJ.out (by rw [pairsTo_length]; omega)
    dsimp only [encP] at hy1
    have HR := LH hR
    clear hR hs
    gi_wp2
    refine HR.out.mono ?_
    rintro e W3 (⟨rfl, hJ3, hk3⟩ | ⟨rfl, hJx3⟩)
    ·have HJ3 := LH hJ3
     clear hJ3
     gi_wp2
     go_roundw
     case rel => exact ⟨k + 1, by omega, by go_num, by rw [HS.out]; exact HJ3, hkp.trans hk3⟩
     case measure => simp [intOf]; omega
    ·gi_wp2
     refine bodyPost_ret (results_none rfl _ _ _) rfl ?_
     exact ⟨⟨_, rfl⟩, .inr ⟨_, trivial, hJx3⟩⟩
   ·skip
    obtain ⟨x, y, bx, by', ex, ey, hs⟩ : ∃ (x y : Nat) (h1 : x < 4294967296) (h2 : y < 4294967296), xs.getD k 0 = x ∧ ys.getD k 0 = y ∧ pairsTo hx hy (k + 1) = pairsTo hx hy k ++ [⟨(x, y), h1, h2⟩] := ⟨_, _, hx.getD k, hy.getD k, rfl, rfl, pairsTo_succ hx hy k⟩
    obtain ⟨bX, oX, rfl, hbX, hcX⟩ := HXr.out.2.2 (by omega)
    have cX := hcX k hkn
    rw [ex] at cX
    clear hcX ex
    have hbn : decide (k < n) = true := by simp; omega
    have h01 : (k : Int) < (n : Int) := by omega
    obtain rfl : y = 0 := by rw [← ey]; simp [List.getD, show ys.length ≤ k by rw [HYr.out.1]; omega]
    clear ey
    have hbm : decide (k < m) = false := by simp; omega
    have h00 : (0 : Int) ≤ (k : Int) := by omega
    have HS := LH hs
    obtain ⟨fn, tmps, assign, body, hy1, hR⟩ := HY.out (pairsTo hx hy k) ⟨(x, 0), bx, by'⟩ wr HJ.out (by rw [pairsTo_length]; omega)
    dsimp only [encP] at hy1
    simp only [Int.natCast_zero] at hy1
    have HR := LH hR
    clear hR hs
    gi_wp2
    refine HR.out.mono ?_
    rintro e W3 (⟨rfl, hJ3, hk3⟩ | ⟨rfl, hJx3⟩)
    ·have HJ3 := LH hJ3
     clear hJ3
     gi_wp2
     go_roundw
     case rel => exact ⟨k + 1, by omega, by go_num, by rw [HS.out]; exact HJ3, hkp.trans hk3⟩
     case measure => simp [intOf]; omega
    ·gi_wp2
     refine bodyPost_ret (results_none rfl _ _ _) rfl ?_
     exact ⟨⟨_, rfl⟩, .inr ⟨_, trivial, hJx3⟩⟩
  ·have hbv : decide (k < n) = false := by simp; omega
   have hkN : k = n := by omega
   have HJE := HJ.out
   rw [hkN] at HJE
   clear hkN
   gi_wp2
   go_end0
   exact ⟨⟨_, rfl⟩, .inl ⟨_, rfl, HJE⟩⟩
end Go.Proofs.YtjinpfnefeiooaaGreat
namespace Go.Proofs.YtjinpfnefeiooaaGreat
open Go.RowKit Go.Shelf
attribute [local go_sem] Oper.semAt_some

theorem info_u32 : (Tryz.prog.info? 44).map (fun i => (i.zero, i.size, i.bytes)) = some (some (.int .u32 0), 1, 4) := by kernel_rfl
def u32s (S : List Nat) : List Value := S.map fun (x : Nat) => Value.int .u32 (x : Int)
theorem u32s_len (S : List Nat) : (u32s S).length = S.length := by simp [u32s]
theorem u32s_one (S : List Nat) : ∀ u ∈ u32s S, u.oneCell' = true := by
 intro u hu
 obtain ⟨x, _, rfl⟩ := List.mem_map.1 hu
 rfl
theorem u32s_snoc (S : List Nat) (x : Nat) : u32s (S ++ [x]) = u32s S ++ [.int .u32 (x : Int)] := by simp [u32s]
theorem own_words {w : World} {base g n c : Nat} {S : List Nat} (h : w.ownsRow base 44 1 (.slice (some ⟨g, 0, none⟩) n c) n (u32s S)) (hw : Words S) : WordsAt w (some ⟨g, 0, none⟩) n S := by
 have hl : S.length = n := by have := h.1; simpa [u32s] using this
 refine ⟨hl, hw, fun hn => ⟨g, 0, rfl, (h.lt g rfl).2, fun i hi => ?_⟩⟩
 rw [Nat.zero_add, h.cellAt i (by omega)]
 simp [u32s, List.getD, show i < S.length by omega]
theorem own_fresh {w : World} {base g n c : Nat} {S : List Value} {e : TypeId} {B : Nat} (h : w.ownsRow base e 1 (.slice (some ⟨g, 0, none⟩) n c) n S) (hB : B ≤ g) : Fresh w B (some ⟨g, 0, none⟩) := fun ad ha => by
 injection ha with ha
 subst ha
 exact ⟨g, 0, rfl, hB, (h.lt g rfl).2, fun i => h.frozenAt _⟩
structure AddSt (w W : World) (s cap : Nat) (S : List Nat) (c : Nat) : Prop where
 own : W.ownsRow s 44 1 (.slice (some ⟨s, 0, none⟩) S.length cap) S.length (u32s S)
 bS : Boxed W (s + 1) 25 (.slice (some ⟨s, 0, none⟩) S.length cap)
 bC : Boxed W (s + 2) 97 (.int .u64 (c : Int))
 bN : Boxed W (s + 3) 141 (carV (s + 2))
 bel : Below s w W
theorem AddSt.size {w W : World} {s cap : Nat} {S : List Nat} {c : Nat} (h : AddSt w W s cap S c) : s + 3 < W.heap.size := h.bN.lt
theorem own_row_block {W : World} {s e n c base : Nat} {xs : List Value} (h : W.ownsRow base e 1 (.slice (some ⟨s, 0, none⟩) n c) n xs) : ∃ cur, W.heap[s]? = some (.cells cur e (0, 0)) := by
 rcases h.2 with ⟨h', _⟩ | ⟨g', cap', cur, h', _, hg, _⟩
 ·simp at h'
 ·simp only [Value.slice.injEq, Option.some.injEq, Addr.mk.injEq, and_true, true_and] at h'
  obtain ⟨rfl, rfl⟩ := h'
  exact ⟨cur, hg⟩
theorem AddSt.grown {w W W' : World} {s cap : Nat} {S : List Nat} {c : Nat} (h : AddSt w W s cap S c) {row : Option Nat} (hg : W.grownBy W' row) (hr : ∀ r, row = some r → s ≤ r ∧ ∃ o : Obj, W.heap[r]? = some o ∧ o.isCells = false) : AddSt w W' s cap S c := by
 have nb : ∀ {B : Nat} {t : TypeId} {v : Value}, Boxed W B t v → some B ≠ row := fun {B t v} hb e => by
  obtain ⟨_, o, ho, hc⟩ := hr B e.symm
  rw [show W.heap[B]? = _ from hb] at ho; cases ho; cases hc
 refine ⟨h.own.kept hg (.inr fun e => ?_), h.bS.kept hg (nb h.bS), h.bC.kept hg (nb h.bC), h.bN.kept hg (nb h.bN), h.bel.grown hg (by have := h.size; omega) fun k e => (hr k e).1⟩
 obtain ⟨cur, hcur⟩ := own_row_block h.own
 obtain ⟨_, o, ho, hc⟩ := hr s (by simpa [Value.ownBlock] using e.symm)
 rw [hcur] at ho; cases ho; cases hc
theorem AddSt.drew {w W : World} {s cap : Nat} {S : List Nat} {c : Nat} (h : AddSt w W s cap S c) : AddSt w W.drew s cap S c := ⟨h.own, h.bS, h.bC, h.bN, h.bel.drew⟩
abbrev putC (W : World) (s c : Nat) : World := W.setCell ⟨s + 2, 0, none⟩ (.int .u64 (c : Int))
theorem AddSt.put {w W : World} {s cap : Nat} {S : List Nat} {c : Nat} (h : AddSt w W s cap S c) (c' : Nat) : AddSt w (putC W s c') s cap S c' := by
 have hg := grownBy_setCell' W (s + 2) (.int .u64 (c' : Int))
 refine ⟨h.own.kept hg (.inr ?_), h.bS.other (by omega) _, h.bC.set _, h.bN.other (by omega) _, h.bel.setCell (p := ⟨s + 2, 0, none⟩) (by simp) _⟩
 simp [Value.ownBlock]
theorem AddSt.new {w W : World} {s cap : Nat} {S : List Nat} {c : Nat} (h : AddSt w W s cap S c) (o : Obj) : AddSt w (W.alloc o) s cap S c := h.grown (World.grownBy_alloc W o none) (fun r e => by cases e)
theorem addst_app {w W W' : World} {s cap : Nat} {S : List Nat} {c x : Nat} (h : AddSt w W s cap S c) (hg : W.grownBy W' (some s)) (ho : W'.ownsRow s 44 1 (.slice (some ⟨s, 0, none⟩) (S.length + 1) cap) (S.length + 1) (u32s S ++ [.int .u32 (x : Int)])) :
  Boxed W' (s + 1) 25 (.slice (some ⟨s, 0, none⟩) S.length cap) ∧ AddSt w (W'.setCell ⟨s + 1, 0, none⟩ (.slice (some ⟨s, 0, none⟩) (S.length + 1) cap)) s cap (S ++ [x]) c := by
 have b1 : Boxed W' (s + 1) 25 (.slice (some ⟨s, 0, none⟩) S.length cap) := h.bS.kept hg (by simp)
 have hg2 := grownBy_setCell' W' (s + 1) (.slice (some ⟨s, 0, none⟩) (S.length + 1) cap)
 refine ⟨b1, ?_, ?_, (h.bC.kept hg (by simp)).other (by omega) _, (h.bN.kept hg (by simp)).other (by omega) _, (h.bel.grown hg (by have := h.size; omega) (fun k e => by cases e; exact Nat.le_refl _)).setCell (p := ⟨s + 1, 0, none⟩) (by simp) _⟩
 ·have := ho.kept hg2 (.inr (by simp [Value.ownBlock]))
  rw [u32s_snoc, List.length_append]
  exact this
 ·rw [List.length_append]
  exact b1.set _
theorem keeps_all {W W' _W'' : World} {s c _x _cap : Nat} {o : Obj} {v : Value} (hr : ∃ cur t, W.heap[s]? = some (.cells cur t (0, 0))) (hs : s + 2 < W.heap.size) (hg : ((W.drew.setCell ⟨s + 2, 0, none⟩ (.int .u64 (c : Int))).alloc o).grownBy W' (some s)) :
  KeepsOthers W (W'.setCell ⟨s + 1, 0, none⟩ v) := by
 refine ((((KeepsOthers.drew W).trans (KeepsOthers.setCell _ _ _)).trans (KeepsOthers.alloc _ _)).trans (KeepsOthers.of_grownBy hg fun j o' ej hj => ?_)).trans (KeepsOthers.setCell _ _ _)
 cases ej
 obtain ⟨cur, t, hcur⟩ := hr
 have e1 := Below.heap_alloc (W.drew.setCell ⟨s + 2, 0, none⟩ (.int .u64 (c : Int))) o s (by simp [World.setCell]; omega)
 have e2 := Below.heap_setCell W.drew ⟨s + 2, 0, none⟩ (.int .u64 (c : Int)) s (by simp)
 rw [e1, e2, show W.drew.heap[s]? = W.heap[s]? from rfl, hcur] at hj
 cases hj
 rfl
theorem kp_all {W W' : World} {s c p q : Nat} {o : Obj} {v : Value} (hp : s + 2 < p) (hq : s + 2 < q) (hpl : p < W.heap.size) (hql : q < W.heap.size) (hg : ((W.drew.setCell ⟨s + 2, 0, none⟩ (.int .u64 (c : Int))).alloc o).grownBy W' (some s)) :
  Kp s p q W (W'.setCell ⟨s + 1, 0, none⟩ v) := by
 have key : ∀ k, k < W.heap.size → k ≠ s → k ≠ s + 1 → k ≠ s + 2 → (W'.setCell ⟨s + 1, 0, none⟩ v).heap[k]? = W.heap[k]? := fun k hk h0 h1 h2 => by
  rw [Below.heap_setCell W' ⟨s + 1, 0, none⟩ v k (by simpa using h1), hg.block k (by simp [World.setCell]; omega) (by simpa using h0), Below.heap_alloc _ _ _ (by simp [World.setCell]; exact hk), Below.heap_setCell W.drew ⟨s + 2, 0, none⟩ _ k (by simpa using h2)]
  rfl
 refine ⟨?_, fun k hk => ?_, key p hpl (by omega) (by omega) (by omega), key q hql (by omega) (by omega) (by omega)⟩
 ·have := hg.size
  simp [World.setCell] at this ⊢
  omega
 ·rcases Nat.lt_or_ge k W.heap.size with hkl | hkl
  ·exact key k hkl (by omega) (by omega) (by omega)
  ·omega
theorem carry_step {S : List Nat} {c v T : Nat} (h : natOf S + 4294967296 ^ S.length * c = T) : natOf (S ++ [(v + c) % 4294967296]) + 4294967296 ^ (S ++ [(v + c) % 4294967296]).length * ((v + c) / 4294967296) = T + 4294967296 ^ S.length * v := by
 rw [natOf_snoc, List.length_append, List.length_singleton, Nat.pow_succ]
 generalize (4294967296 : Nat) ^ S.length = P at *
 have e : (v + c) % 4294967296 + 4294967296 * ((v + c) / 4294967296) = v + c := Nat.mod_add_div _ _
 rw [Nat.mul_assoc, Nat.add_assoc, ← Nat.mul_add, e, Nat.mul_add, ← h]
 omega
theorem Blk'lt {w : World} {p : Nat} {o : Obj} (h : w.heap[p]? = some o) : p < w.heap.size := (Array.getElem?_eq_some_iff.1 h).1
theorem inX_grown {w0 w1 w2 : World} {X : List Nat} (h : InX w0 X w1) {row : Option Nat} (hg : w1.grownBy w2 row) (hr : ∀ k, row = some k → k ∈ X) : InX w0 X w2 := by
 obtain ⟨x, rfl⟩ := h
 exact ⟨⟨w2, Nat.le_trans x.size hg.size, fun k hk hX => (hg.block k (Nat.lt_of_lt_of_le hk x.size) (fun e => hX (hr k e.symm))).trans (x.same k hk hX)⟩, rfl⟩
theorem natOf_map_snoc {v : Pair → Nat} (pre : List Pair) (x : Pair) : natOf ((pre ++ [x]).map v) = natOf (pre.map v) + 4294967296 ^ pre.length * v x := by
 rw [List.map_append, List.map_singleton, natOf_snoc, List.length_map]
theorem fst_to {xs ys : List Nat} (hx : Words xs) (hy : Words ys) : ∀ k, natOf ((pairsTo hx hy k).map fun p => p.1.1) = natOf (xs.take k)
 | 0 => by simp [pairsTo, natOf]
 | k + 1 => by rw [pairsTo_succ, natOf_map_snoc, fst_to hx hy k, natOf_take_succ, pairsTo_length]
theorem snd_to {xs ys : List Nat} (hx : Words xs) (hy : Words ys) : ∀ k, natOf ((pairsTo hx hy k).map fun p => p.1.2) = natOf (ys.take k)
 | 0 => by simp [pairsTo, natOf]
 | k + 1 => by rw [pairsTo_succ, natOf_map_snoc, snd_to hx hy k, natOf_take_succ, pairsTo_length]
def vAdd (p : Pair) : Nat := p.1.1 + p.1.2
def vSub (p : Pair) : Nat := p.1.1 + (4294967295 - p.1.2)
theorem vAdd_to : ∀ pre : List Pair, natOf (pre.map vAdd) = natOf (pre.map fun p => p.1.1) + natOf (pre.map fun p => p.1.2)
 | [] => rfl
 | x :: pre => by
  simp only [List.map_cons, natOf, vAdd_to pre, vAdd]
  omega
theorem vSub_to : ∀ pre : List Pair, 1 + natOf (pre.map vSub) + natOf (pre.map fun p => p.1.2) = natOf (pre.map fun p => p.1.1) + 4294967296 ^ pre.length
 | [] => rfl
 | x :: pre => by
  have ih := vSub_to pre
  have hx := x.2.2
  simp only [List.map_cons, natOf, vSub, List.length_cons, Nat.pow_succ]
  generalize natOf (pre.map vSub) = a at *
  generalize natOf (pre.map fun p => p.1.2) = b at *
  generalize natOf (pre.map fun p => p.1.1) = d at *
  generalize (4294967296 : Nat) ^ pre.length = P at *
  omega
end Go.Proofs.YtjinpfnefeiooaaGreat
namespace Go.Proofs.YtjinpfnefeiooaaGreat
open Go.RowKit

def Blk (w : World) (g : Nat) (t : TypeId) (cs : Array Value) : Prop := w.heap[g]? = some (.cells cs t (0, 0))
section
variable {w w' : World} {g : Nat} {t : TypeId} {cs : Array Value}
theorem Blk.lt (h : Blk w g t cs) : g < w.heap.size := by
 rcases Nat.lt_or_ge g w.heap.size with hlt | hge
 ·exact hlt
 ·unfold Blk at h; rw [Array.getElem?_eq_none hge] at h; cases h
theorem Blk.cell (h : Blk w g t cs) (i : Nat) : w.cell? ⟨g, i, none⟩ = cs[i]? := cell_of_row w g i cs t (0, 0) h
theorem Blk.frozen (h : Blk w g t cs) (i : Nat) : w.frozen? ⟨g, i, none⟩ = false := by
 unfold Blk at h
 simp [World.frozen?, h]
theorem Blk.new (w : World) (t : TypeId) (cs : Array Value) : Blk (w.alloc (.cells cs t)) w.heap.size t cs := heap_alloc_new w _
theorem Blk.keep (h : Blk w g t cs) (e : w'.heap[g]? = w.heap[g]?) : Blk w' g t cs := e.trans h
theorem Blk.alloc (h : Blk w g t cs) (o : Obj) : Blk (w.alloc o) g t cs := h.keep (Below.heap_alloc w o g h.lt)
theorem Blk.put (h : Blk w g t cs) (i : Nat) (u : Value) : Blk (w.setCell ⟨g, i, none⟩ u) g t (cs.setIfInBounds i u) := by
 unfold Blk at h ⊢
 simp [World.setCell, Array.getElem?_modify, h]
theorem Blk.far (h : Blk w g t cs) {p : Addr} (hp : g ≠ p.block) (u : Value) : Blk (w.setCell p u) g t cs := h.keep (Below.heap_setCell w p u g hp)
end
section
variable {w w' : World} {base : Nat} {e : TypeId} {size n : Nat} {v : Value} {xs : List Value}
theorem own_lt (h : w.ownsRow base e size v n xs) {g : Nat} (hg : v.ownBlock = some g) : g < w.heap.size ∧ base ≤ g := by
 rcases h.2 with ⟨rfl, _⟩ | ⟨g', cap, cur, rfl, hb, hh, _⟩
 ·simp [Value.ownBlock] at hg
 ·have : g' = g := by simpa [Value.ownBlock] using hg
  subst this
  exact ⟨Blk.lt (t := e) hh, hb⟩
theorem own_keep (h : w.ownsRow base e size v n xs) (hk : ∀ g, v.ownBlock = some g → w'.heap[g]? = w.heap[g]?) : w'.ownsRow base e size v n xs := by
 refine ⟨h.1, ?_⟩
 rcases h.2 with h0 | ⟨g', cap, cur, rfl, hb, hh, h3⟩
 ·exact .inl h0
 ·exact .inr ⟨g', cap, cur, rfl, hb, (hk g' rfl).trans hh, h3⟩
end

theorem wp_append_at {P : Program} (w : World) {o : Oper} {a : Act} {K : Act → World → Prop} {Q : Exit → Act → World → Prop} (s x : Operand) (t : TypeId)
  (ho : o.op = .call { callee := .builtin .append, args := #[s, x], argTypes := #[t, t] })
  (base : Nat) (e : TypeId) (i : TypeInfo) (z : Value) (size bytes : Nat) (ht : P.underlying t = some (.slice e)) (hi : P.info? e = some i) (hz : i.zero = some z)
  (hsize : i.size = size) (hby : i.bytes = bytes) (hzs : z.cells.size = size) (hsz : 0 < size)
  (v : Value) (n : Nat) (xs : List Value) (hs : a.eval s = v) (hown : w.ownsRow base e size v n xs)
  (ad : Addr) (m c : Nat) (news : List Value) (hx : a.eval x = .slice (some ad) m c) (hl : news.length = m * size) (hnews : ∀ j u, news[j]? = some u → w.cell? (ad.add j) = some u) (h1 : ∀ u ∈ news, u.oneCell' = true)
  (hv : v ≠ .slice none 0 0 ∨ 0 < m) (h63 : n + m ≤ maxLen) (hbytes : (n + m) * bytes ≤ 140737488355328) (hbase : base ≤ w.heap.size)
  (h : ∀ g cap w', w'.ownsRow base e size (.slice (some ⟨g, 0, none⟩) (n + m) cap) (n + m) (xs ++ news) → w.grownBy w' v.ownBlock → (v.ownBlock = some g ∨ g = w.heap.size) → K (a.put o.dst (.slice (some ⟨g, 0, none⟩) (n + m) cap)) w') : o.wp P a w K Q := by
 obtain ⟨v', w', hrun, h2, h3, h4, h5⟩ := run_append_own_at (P := P) w base t o.type e i z size bytes ht hi hz hsize hby hzs hsz v n xs hown ad m c news hl hnews h1 h63 hbytes hbase
 unfold Oper.wp execOp
 simp only [ho, resolve, invoke, builtin, Sem.run_bind, Sem.run_pure, Result.andThen_ok, List.map_toArray, List.map_cons, List.map_nil, hs, hx, hrun]
 rcases h2.2 with ⟨hn, _⟩ | ⟨g, cap, cur, rfl, h6⟩
 ·exact absurd (h4.1 hn) (by rintro ⟨e1, e2⟩; rcases hv with hv | hv; exact hv e1; omega)
 ·refine h g cap w' h2 h3 ?_
  rcases h5 with h5 | h5
  ·exact .inl h5.symm
  ·exact .inr (by simpa [Value.ownBlock] using h5)
end Go.Proofs.YtjinpfnefeiooaaGreat
namespace Go.Proofs.YtjinpfnefeiooaaGreat
open Go.RowKit

theorem wpList_append_atW {P : Program} (w : World) {ops : Array Oper} {rest : List Oper} {o : Oper} {a : Act} {Q : Exit → Act → World → Prop} (hgd : o.guard = none) (s x : Operand) (t : TypeId)
  (ho : o.op = .call { callee := .builtin .append, args := #[s, x], argTypes := #[t, t] })
  (base : Nat) (e : TypeId) (i : TypeInfo) (z : Value) (size bytes : Nat) (ht : P.underlying t = some (.slice e)) (hi : P.info? e = some i) (hz : i.zero = some z)
  (hsize : i.size = size) (hby : i.bytes = bytes) (hzs : z.cells.size = size) (hsz : 0 < size)
  (v : Value) (n : Nat) (xs : List Value) (hs : a.eval s = v) (hown : w.ownsRow base e size v n xs)
  (ad : Addr) (m c : Nat) (news : List Value) (hx : a.eval x = .slice (some ad) m c) (hl : news.length = m * size) (hnews : ∀ j u, news[j]? = some u → w.cell? (ad.add j) = some u) (h1 : ∀ u ∈ news, u.oneCell' = true)
  (hv : v ≠ .slice none 0 0 ∨ 0 < m) (h63 : n + m ≤ maxLen) (hbytes : (n + m) * bytes ≤ 140737488355328) (hbase : base ≤ w.heap.size)
  (h : ∀ g cap w', w'.ownsRow base e size (.slice (some ⟨g, 0, none⟩) (n + m) cap) (n + m) (xs ++ news) → w.grownBy w' v.ownBlock → (v.ownBlock = some g ∨ g = w.heap.size) → wpList P ops Q rest (a.put o.dst (.slice (some ⟨g, 0, none⟩) (n + m) cap)) w') :
  wpList P ops Q (o :: rest) a w :=
 wpList_plain hgd fun _ hK => wp_append_at w s x t ho base e i z size bytes ht hi hz hsize hby hzs hsz v n xs hs hown ad m c news hx hl hnews h1 hv h63 hbytes hbase fun g cap w' h2 h3 h4 => hK _ _ (h g cap w' h2 h3 h4)
theorem ext_grownW {w0 w w' : World} {row : Option Nat} (h : Ext w0 w) (hg : w.grownBy w' row) (hr : ∀ k, row = some k → w0.heap.size ≤ k) : Ext w0 w' := Below.grown h hg h.size hr
theorem news_words {w : World} {ad : Addr} {n : Nat} {xs : List Nat} (h : WordsAt w (some ad) n xs) : ∀ j u, (u32s xs)[j]? = some u → w.cell? (ad.add j) = some u := by
 intro j u hu
 have hj : j < xs.length := by
  rcases Nat.lt_or_ge j xs.length with hl | hl
  ·exact hl
  ·rw [List.getElem?_eq_none (by rw [u32s_len]; exact hl)] at hu; cases hu
 obtain ⟨b, off, e, _, hc⟩ := h.2.2 (by have := h.1; omega)
 injection e with e
 subst e
 have e2 : (⟨b, off, none⟩ : Addr).add j = ⟨b, off + j, none⟩ := by unfold Addr.add; split <;> simp_all
 rw [e2, hc j (by have := h.1; omega), ← hu]
 simp [u32s, List.getD, hj]
def NewW (w' : World) (B : Nat) (A : Option Addr) (n c : Nat) (xs : List Nat) : Prop := WordsAt w' A n xs ∧ n ≤ c ∧ c ≤ maxLen ∧ Fresh w' B A
theorem own_new {w : World} {base g n c B : Nat} {S : List Nat} (h : w.ownsRow base 44 1 (.slice (some ⟨g, 0, none⟩) n c) n (u32s S)) (hw : Words S) (hB : B ≤ g) : NewW w B (some ⟨g, 0, none⟩) n c S := by
 refine ⟨own_words h hw, ?_, ?_, own_fresh h hB⟩
 ·rcases h.2 with ⟨h', _⟩ | ⟨g', cap', cur, h', _, _, h3, h4, _⟩
  ·simp at h'
  ·simp only [Value.slice.injEq, Option.some.injEq, Addr.mk.injEq, and_true, true_and] at h'
   obtain ⟨rfl, rfl⟩ := h'; exact h3
 ·rcases h.2 with ⟨h', _⟩ | ⟨g', cap', cur, h', _, _, h3, h4, _⟩
  ·simp at h'
  ·simp only [Value.slice.injEq, Option.some.injEq, Addr.mk.injEq, and_true, true_and] at h'
   obtain ⟨rfl, rfl⟩ := h'; exact h4
theorem NewW.ext {w w' : World} {B : Nat} {A : Option Addr} {n c : Nat} {xs : List Nat} (h : NewW w B A n c xs) (hb : Ext w w') : NewW w' B A n c xs := ⟨h.1.below hb, h.2.1, h.2.2.1, h.2.2.2.ext hb⟩
theorem NewW.base {w : World} {B B' : Nat} {A : Option Addr} {n c : Nat} {xs : List Nat} (h : NewW w B A n c xs) (hb : B' ≤ B) : NewW w B' A n c xs := ⟨h.1, h.2.1, h.2.2.1, h.2.2.2.base hb⟩
set_option maxRecDepth 100000 in
set_option maxHeartbeats 1600000 in
theorem clone_any (A : Option Addr) (n c : Nat) (xs : List Nat) (w : World) (h : WordsAt w A n xs) (hn : n ≤ 4294967296) :
    Calls Tryz.prog 126 #[.slice A n c] w fun e w' => ∃ A' c', e = .returned (.slice A' n c') ∧ NewW w' w.heap.size A' n c' xs ∧ Ext w w' := by
  obtain ⟨i0, hi, hz0, hz1, hz2⟩ := info_parts info_u32
  have heq := fun w a => Lib.run_eql_slice_nil (P := Tryz.prog) w 25 44 a n c 0 0 Tryz.underlying25
  rcases A with _ | ad
  · have hn0 : n = 0 := by
      rcases Nat.eq_zero_or_pos n with h0 | h0
      · exact h0
      · obtain ⟨_, _, e, _⟩ := h.2.2 h0; cases e
    subst hn0
    obtain rfl : xs = [] := List.eq_nil_of_length_eq_zero h.1
    go_enter Tryz.func126, Tryz.ntmps126
    go_wp2_with fail
    go_ret
    exact ⟨none, 0, rfl, ⟨WordsAt.nil _ _, Nat.le_refl _, by omega, fun ad h => by cases h⟩, Ext.rfl'⟩
  · have HH := LH h
    clear h
    go_enter Tryz.func126, Tryz.ntmps126
    have HO : Hid ((w.alloc (.cells #[] 44)).ownsRow w.heap.size 44 1 (.slice (some ⟨w.heap.size, 0, none⟩) 0 0) 0 []) := by
      have := World.ownsRow_lit (base := w.heap.size) (e := 44) (size := 1) w #[] 0 (Nat.le_refl _) (by omega) (by simp)
      exact this
    have HN := LH (news_words (HH.out.below (Ext.al Ext.rfl' (.cells #[] 44))))
    go_wp2_with (at_builtin
                 refine wpList_append_atW _ rfl (.tmp 5) (.tmp 6) 25 rfl w.heap.size 44 i0 _ 1 4 Tryz.underlying25 hi hz0 hz1 hz2 rfl (by omega) (.slice (some ⟨w.heap.size, 0, none⟩) 0 0) 0 [] rfl HO.out ad n c (u32s xs) rfl (by rw [u32s_len, HH.out.1]; omega) HN.out (u32s_one xs) (.inl (by simp)) (by simp [maxLen]; omega) (by omega) (by simp) ?_
                 intro g cap w1 hown hg hat
                 rw [Nat.zero_add, List.nil_append] at hown
                 have HO1 := LH hown
                 have HG1 := LH hg
                 have HA1 := LH hat
                 clear hown hg hat
                 rw [Nat.zero_add])
    go_ret
    refine ⟨_, _, rfl, own_new HO1.out HH.out.2.1 ?_, ?_⟩
    · have := HA1.out
      simp [Value.ownBlock] at this
      omega
    · exact ext_grownW (Ext.al Ext.rfl' _) HG1.out (by intro k hk; simp [Value.ownBlock] at hk; omega)
def Cell2 (w : World) (r : Nat) (v0 v1 : Value) : Prop := w.cell? ⟨r, 0, none⟩ = some v0 ∧ w.cell? ⟨r, 1, none⟩ = some v1 ∧ w.frozen? ⟨r, 0, none⟩ = false ∧ w.frozen? ⟨r, 1, none⟩ = false ∧ r < w.heap.size
theorem Cell2.new (w : World) (r : Nat) (hr : w.heap.size = r) (v0 v1 : Value) (t : TypeId) : Cell2 (w.alloc (.cells #[v0, v1] t)) r v0 v1 := by
 subst hr
 refine ⟨?_, ?_, ?_, ?_, ?_⟩ <;> simp [go_sem]
theorem Cell2.ext {w w' : World} {r : Nat} {v0 v1 : Value} (h : Cell2 w r v0 v1) (hb : Ext w w') : Cell2 w' r v0 v1 :=
 ⟨Ext.cellOf hb h.1, Ext.cellOf hb h.2.1, (hb.frozen (p := ⟨r, 0, none⟩) h.2.2.2.2).trans h.2.2.1, (hb.frozen (p := ⟨r, 1, none⟩) h.2.2.2.2).trans h.2.2.2.1, Nat.lt_of_lt_of_le h.2.2.2.2 hb.size⟩
theorem retZ_fill {w w1 : World} {r B : Nat} {b : Bool} {A : Option Addr} {n c : Nat} {z : Int} (hr : w.heap.size ≤ r) (hB : r < B) (hz : ZCan w1 B b A n c z) (hb : Ext w w1) (v0 v1 : Value) :
  ZCan ((w1.setCell ⟨r, 0, none⟩ v0).setCell ⟨r, 1, none⟩ v1) w.heap.size b A n c z ∧ Ext w ((w1.setCell ⟨r, 0, none⟩ v0).setCell ⟨r, 1, none⟩ v1) :=
 ⟨((hz.put (p := ⟨r, 0, none⟩) hB v0).put (p := ⟨r, 1, none⟩) hB v1).base (by omega), Below.setCell (Below.setCell hb (p := ⟨r, 0, none⟩) hr v0) (p := ⟨r, 1, none⟩) hr v1⟩
set_option maxRecDepth 100000 in
set_option maxHeartbeats 1600000 in
theorem neg_any (b : Bool) (A : Option Addr) (n c : Nat) (z : Int) (w : World) (h : ZIs w b A n c z) (hn : n ≤ 1073741824) :
  Calls Tryz.prog 96 #[.agg #[.bool b, .slice A n c]] w (RetZ w (-z)) := by
 obtain ⟨xs, h1, h2, h3, rfl⟩ := h
 have HS : Hid (sgn (!b) (natOf xs) = -sgn b (natOf xs)) := by unfold Hid sgn; cases b <;> simp
 go_enter Tryz.func96, Tryz.ntmps96
 go_wp2_with fail
 have hE : Ext w ((w.alloc (.cells #[.bool b, .slice A n c] 27)).alloc (.cells #[.bool false, .slice none 0 0] 27)) := Ext.al (Ext.al Ext.rfl' _) _
 have a0 := (Cell2.new w _ rfl (.bool b) (.slice A n c) 27).ext (Ext.al Ext.rfl' (.cells #[.bool false, .slice none 0 0] 27))
 have r0 := Cell2.new (w.alloc (.cells #[.bool b, .slice A n c] 27)) (w.heap.size + 1) (by simp) (.bool false) (.slice none 0 0) 27
 generalize ((w.alloc (.cells #[.bool b, .slice A n c] 27)).alloc (.cells #[.bool false, .slice none 0 0] 27)) = W at *
 have x0 := fun y : ExtX W.drew [] => y.cell (p := ⟨w.heap.size, 0, none⟩) a0.1 (by simp)
 have x1 := fun y : ExtX W.drew [] => y.cell (p := ⟨w.heap.size, 1, none⟩) a0.2.1 (by simp)
 have HE := LH hE
 have HR := LH r0
 have H1 := LH h1
 have hle := words_len_ge h1.2.1
 rw [h1.1] at hle
 have hle2 : (wordsOf (natOf xs)).length ≤ 4294967296 := by omega
 clear a0 r0 h1 hE
 refine wp_region_lex (C := InX W.drew []) (by kernel_rfl) (by kernel_rfl) (inX_self _ _) ?_
 repeat (refine wpLex_still (by rfl) ?_; go_big_quiet_step (fail); refine wpQuiet_nil ?_)
 refine wpLex_move (by rfl) (by rfl) ?_
 go_wp2_with fail
 refine (trim_any A n c xs W.drew (H1.out.below HE.out.drew) h2 h3).mono ?_
 rintro e w1 ⟨rfl, rfl⟩
 go_wp2_with fail
 refine And.intro (inX_self _ _) ?_
 refine wpLex_move (by rfl) (by rfl) ?_
 go_wp2_with fail
 have HT := LH (H1.out.below HE.out.drew).trim
 refine (clone_any A (wordsOf (natOf xs)).length c (wordsOf (natOf xs)) W.drew HT.out hle2).mono ?_
 rintro e w2 ⟨A2, c2, rfl, hN2, hb2⟩
 have HN2 := LH hN2
 have HB2 := LH hb2
 clear hN2 hb2
 go_wp2_with fail
 refine And.intro (inX_of_ext _ HB2.out) ?_
 refine wpLex_move (by rfl) (by rfl) ?_
 go_wp2_with fail
 refine (build_any (!b) A2 _ c2 (wordsOf (natOf xs)) w2 W.heap.size HN2.out.1 HN2.out.2.1 HN2.out.2.2.1 HN2.out.2.2.2).mono ?_
 rintro e w3 ⟨b', A', n', c', rfl, hz, hb3⟩
 rw [natOf_wordsOf, HS.out] at hz
 have HZ := LH hz
 have HB3 := LH (ET HB2.out hb3)
 clear hz hb3
 go_wp2_with fail
 refine And.intro (inX_of_ext _ HB3.out) ?_
 obtain ⟨e0, e1, f0, f1, hrl⟩ := (HR.out.ext Ext.rfl'.drew).ext HB3.out
 have hrz : w.heap.size + 1 < W.heap.size := HR.out.2.2.2.2
 refine wpLex_last (by rfl) (by kernel_rfl) (by rfl) ?_
 go_wp2_with fail
 refine And.intro trivial (wpLex_nil ?_)
 go_wp2_with fail
 refine bodyPost_ret (v := .agg #[.bool b', .slice A' n' c']) (by simp [results, Tryz.results96, go_sem, e0, e1]) rfl ?_
 exact ⟨_, _, _, _, rfl, retZ_fill (by omega) hrz HZ.out (ET HE.out.drew HB3.out) _ _⟩
end Go.Proofs.YtjinpfnefeiooaaGreat
