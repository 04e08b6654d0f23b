/- Ranges over whole.pairs: a region in a round is a region; the contract of the iterator. -/
import Derived.RangeFuncNested
import Derived.RangeFuncBound
import Derived.RangeFuncCalls
import Derived.RangeFuncLeaves
import Derived.Shelf.Abstract
import Derived.OwnWalkIn
import Derived.TacticsInMore
import Derived.LoopNIn
import Derived.LoopIn
import Derived.Test.YtkdbpcenehhopaaWordsC
namespace Go.Proofs.Ytkdbpcenehhopaa
open Go.RowKit Go.Shelf
attribute [local go_sem] Oper.semAt_some

section
variable {P : Program} {ops : Array Oper} {Q : Exit → Act → World → Prop} {md : Region.Mode}
def noDefer (o : Oper) : Bool := match o.op with
  | .defer _ => false
  | _ => true
theorem wpIn_of_wpR {o : Oper} (hd : noDefer o = true) {l n : Nat} {a : Act} {w : World} {K K' : Act → World → Prop} (hK : ∀ a w, K a w → K' a w) (h : o.wp P a w K noOut) : o.wpIn (Fence.wide.inRound l) n P a w K' Q := by
  refine ⟨fun _ _ => trivial, ?_⟩
  have hs : o.semAt (some l) a.eval = execOp a.eval o := by
    unfold Oper.semAt
    split
    · rename_i c h1 h2; simp [noDefer, h2] at hd
    · rfl
  show o.uponIn _ n P a K' Q ((o.semAt (some l) a.eval).run P w)
  rw [hs]
  unfold Oper.wp at h
  generalize (execOp a.eval o).run P w = r at *
  cases r with
  | ok x w' =>
    cases x <;> simp only [Oper.upon] at h <;> simp only [Oper.uponIn]
    case value v => exact hK _ _ h
    case skip => exact hK _ _ h
    case defer d => exact hK _ _ h
    case enter f args =>
      refine ⟨fun hh => (by cases hh), CallsIn.inRound l (callsIn_wide.2 (h.mono fun e w'' he => ?_))⟩
      cases e with
      | returned v => exact hK _ _ he
      | panicked c => exact he.elim
      | outgrown => obtain ⟨_, _, hf⟩ := he; exact hf.elim
    case row row args => exact ⟨fun hh => (by cases hh), fun c cs _ => let ⟨v, w'', r, st⟩ := h c cs; ⟨v, w'', hK _ _ r, stepsIn_wide.2 st⟩⟩
  | halt x w' => cases x <;> simp only [Oper.upon] at h <;> exact h.elim
theorem wpAnyIn_of_L {C : World → Prop} {l n : Nat} (hd : ops.all noDefer = true) : ∀ (fuel : Nat) (listed : Array Bool) (a : Act) (w : World), Closed md ops listed → (∀ k ok, ops[k]? = some ok → stillOp ok = true → listed.getD k true = false → C w) → wpAnyL P md ops C Q fuel listed a w → wpAnyIn (Fence.wide.inRound l) n P md ops Q fuel listed a w
  | 0, _, _, _, _, _, h => h
  | fuel + 1, listed, a, w, hcl, hC, h => ⟨h.1, fun i hi => by
      have h2 := h.2 i hi
      have hun : ∀ {k : Nat}, (listed.setIfInBounds i true).getD k true = false → listed.getD k true = false := fun {k} hk => by
        by_cases hik : i = k
        · subst hik; exact (mem_ready.1 hi).1
        · rwa [getD_set_ne true hik] at hk
      unfold lOp at h2
      unfold wpOpIn
      split
      · rename_i ho; simp only [ho] at h2; exact wpAnyIn_of_L hd fuel _ _ _ (hcl.set hi) (fun k ok hk hs hu => hC k ok hk hs (hun hu)) h2
      · rename_i o ho
        have hdo : noDefer o = true := Array.all_eq_true_iff_forall_mem.1 hd o (Array.mem_of_getElem? ho)
        simp only [ho] at h2
        by_cases hw : Region.wanted o (yielded ops a.tmps) = true
        · simp only [hw, if_true] at h2 ⊢
          by_cases hs : stillOp o = true
          · simp only [hs, if_true] at h2
            obtain ⟨v, h3, h4⟩ := h2
            refine wpIn_of_wpR hdo (K := fun a' w' => a' = a.put o.dst v ∧ w' = w) (fun a' w' ⟨e1, e2⟩ => ?_) ?_
            · subst e1; subst e2
              exact wpAnyIn_of_L hd fuel _ _ _ (hcl.set hi) (fun k ok hk hs hu => hC k ok hk hs (hun hu)) h4
            · unfold Oper.wp
              rw [h3 w (hC i o ho hs (mem_ready.1 hi).1)]
              exact ⟨rfl, rfl⟩
          · simp only [hs] at h2
            exact wpIn_of_wpR hdo (fun a w ⟨h1, h3⟩ => wpAnyIn_of_L hd fuel _ a w (hcl.set hi) (fun k ok hk hs hu => h1 (not_last hcl hi ho hk hs (hun hu))) h3) h2
        · simp only [hw] at h2 ⊢; exact ⟨fun _ _ => trivial, wpAnyIn_of_L hd fuel _ _ _ (hcl.set hi) (fun k ok hk hs hu => hC k ok hk hs (hun hu)) h2⟩⟩
/-- A region that draws its order, in a round: one walk in the order of the text. -/
theorem wpIn_region_lex {C : World → Prop} {id l0 n : Nat} {a : Act} {w : World} {l : List Oper} (hm : P.follows .mixedOrders = true) (hB : lexMB .any l.toArray = true) (hd : l.toArray.all noDefer = true) (hC : C w.drew)
    (h : wpLex P .any l.toArray C Q l a w.drew) : (Code.region id l.toArray true).wpIn (Fence.wide.inRound l0) n P Q a w := by
  simp only [lexMB, Bool.and_eq_true] at hB
  refine wpIn_region_any hm (wpAnyIn_of_L hd _ _ _ _ (closed_none _) (fun _ _ _ _ _ => hC) ?_)
  have := wpAnyL_lex (C := C) (Q := Q) (md := .any) hB.1 l 0 (Array.replicate l.toArray.size false) a w.drew (closed_none _) (by simp) (by simpa using hB.2) h
  simpa using this
end

/-- Two words. -/
abbrev Pair := { p : Nat × Nat // p.1 < 4294967296 ∧ p.2 < 4294967296 }
abbrev encP (p : Pair) : Array Value := #[.int .u64 (p.1.1 : Int), .int .u64 (p.1.2 : Int)]
/-- What has come when k rounds are over. -/
def pairsTo {xs ys : List Nat} (hx : Words xs) (hy : Words ys) (k : Nat) : List Pair := (List.range k).map fun i => ⟨(xs.getD i 0, ys.getD i 0), hx.getD i, hy.getD i⟩
theorem pairsTo_succ {xs ys : List Nat} (hx : Words xs) (hy : Words ys) (k : Nat) : pairsTo hx hy (k + 1) = pairsTo hx hy k ++ [⟨(xs.getD k 0, ys.getD k 0), hx.getD k, hy.getD k⟩] := by simp [pairsTo, List.range_succ]
theorem pairsTo_length {xs ys : List Nat} (hx : Words xs) (hy : Words ys) (k : Nat) : (pairsTo hx hy k).length = k := by simp [pairsTo]
/-- Below n0, and in the blocks p and q, nothing has turned. -/
structure Kp (n0 p q : Nat) (W W' : World) : Prop where
  size : W.heap.size ≤ W'.heap.size
  old : ∀ k, k < n0 → W'.heap[k]? = W.heap[k]?
  p : W'.heap[p]? = W.heap[p]?
  q : W'.heap[q]? = W.heap[q]?
theorem Kp.refl (n0 p q : Nat) (W : World) : Kp n0 p q W W := ⟨Nat.le_refl _, fun _ _ => rfl, rfl, rfl⟩
theorem Kp.trans {n0 p q : Nat} {X Y Z : World} (h : Kp n0 p q X Y) (k : Kp n0 p q Y Z) : Kp n0 p q X Z := ⟨Nat.le_trans h.size k.size, fun i hi => (k.old i hi).trans (h.old i hi), k.p.trans h.p, k.q.trans h.q⟩
theorem Kp.words {n0 p q : Nat} {W W' : World} (h : Kp n0 p q W W') {A : Option Addr} {n : Nat} {xs : List Nat} (hA : 0 < n → ∀ b off, A = some ⟨b, off, none⟩ → b < n0) (hx : WordsAt W A n xs) : WordsAt W' A n xs := by
  refine ⟨hx.1, hx.2.1, fun hn => ?_⟩
  obtain ⟨b, off, e, hlt, hc⟩ := hx.2.2 hn
  exact ⟨b, off, e, Nat.lt_of_lt_of_le hlt h.size, fun i hi => (World.cell?_of_block (h.old b (hA hn b off e))).trans (hc i hi)⟩

set_option maxRecDepth 100000 in
set_option maxHeartbeats 2000000 in
theorem pairs1_m (l : Nat) (A : Option Addr) (n c : Nat) (xs : List Nat) (B : Option Addr) (m d : Nat) (ys : List Nat) (p q n0 : Nat) (hx : Words xs) (hy : Words ys) (hn : n ≤ 1073741824) (hm : m ≤ 1073741824) (hnm : n < m)
    (hA : 0 < n → ∀ b off, A = some ⟨b, off, none⟩ → b < n0) (hB : 0 < m → ∀ b off, B = some ⟨b, off, none⟩ → b < n0) (J Jx : List Pair → World → Prop)
    (hY : ∀ pre x W, J pre W → pre.length < m → YieldAt Fence.wide 1 Try.prog l (encP x) W fun e W' =>
      (e = .returned (.bool true) ∧ J (pre ++ [x]) W' ∧ Kp n0 p q W W') ∨ (e = .returned (.bool false) ∧ Jx (pre ++ [x]) W'))
    (W : World) (hp : W.heap[p]? = some (.cells #[.slice A n c] 68 (0, 0))) (hq : W.heap[q]? = some (.cells #[.slice B m d] 68 (0, 0))) (hwx : WordsAt W A n xs) (hwy : WordsAt W B m ys) (h0 : J [] W) :
    CallsIn Fence.wide 2 Try.prog 103 #[.func (.yield l) #[] #[], .pointer (some ⟨p, 0, none⟩), .pointer (some ⟨q, 0, none⟩)] W fun e W' => (∃ v, e = .returned v) ∧
      ((∃ zs, zs = pairsTo hx hy m ∧ J zs W') ∨ (∃ pre, True ∧ Jx pre W')) := by
  have c1 : W.cell? ⟨p, 0, none⟩ = some (.slice A n c) := by simp [World.cell?, hp]
  have c2 : W.cell? ⟨q, 0, none⟩ = some (.slice B m d) := by simp [World.cell?, hq]
  have HWX := Lib.hid hwx
  have HWY := Lib.hid hwy
  have HY := Lib.hid hY
  have H0 := Lib.hid h0
  clear hp hq hwx hwy hY h0
  refine callsIn_of_wp Try.func103 rfl trivial ?_ rfl
  simp only [Try.ntmps103, List.size_toArray, List.length_cons, List.length_nil, Nat.reduceAdd, Nat.reduceSub, Array.replicate_succ, Array.replicate_zero, List.push_toArray, List.append_toArray, List.nil_append, List.cons_append]
  gi_wp2
  gi_loopw [12] (fun i wr => ∃ k : Nat, k ≤ m ∧ i = .int .i64 k ∧ Hid (J (pairsTo hx hy k) wr) ∧ Kp n0 p q W wr) (fun i _ => m - (intOf i).toNat)
  case atStart => exact ⟨0, Nat.zero_le _, rfl, H0, Kp.refl _ _ _ _⟩
  case round =>
    obtain ⟨k, hk, rfl, HJ, hkp⟩ := hrel
    have d1 : wr.cell? ⟨p, 0, none⟩ = some (.slice A n c) := (World.cell?_of_block hkp.p).trans c1
    have d2 : wr.cell? ⟨q, 0, none⟩ = some (.slice B m d) := (World.cell?_of_block hkp.q).trans c2
    have HXr := Lib.hid (hkp.words hA HWX.out)
    have HYr := Lib.hid (hkp.words hB HWY.out)
    by_cases hlt : k < m
    · have hbv : decide (k < m) = true := by simp; omega
      have hkm : k < m := hlt
      by_cases hkn : k < n
      · skip
        obtain ⟨x, y, bx, by', ex, ey, hs⟩ : ∃ (x y : Nat) (h1 : x < 4294967296) (h2 : y < 4294967296), xs.getD k 0 = x ∧ ys.getD k 0 = y ∧ pairsTo hx hy (k + 1) = pairsTo hx hy k ++ [⟨(x, y), h1, h2⟩] := ⟨_, _, hx.getD k, hy.getD k, rfl, rfl, pairsTo_succ hx hy k⟩
        obtain ⟨bX, oX, rfl, hbX, hcX⟩ := HXr.out.2.2 (by omega)
        have cX := hcX k hkn
        rw [ex] at cX
        clear hcX ex
        have hbn : decide (k < n) = true := by simp; omega
        have h01 : (k : Int) < (n : Int) := by omega
        obtain ⟨bY, oY, rfl, hbY, hcY⟩ := HYr.out.2.2 (by omega)
        have cY := hcY k hkm
        rw [ey] at cY
        clear hcY ey
        have hbm : decide (k < m) = true := by simp; omega
        have h02 : (k : Int) < (m : Int) := by omega
        have h00 : (0 : Int) ≤ (k : Int) := by omega
        have HS := Lib.hid hs
        obtain ⟨fn, tmps, assign, body, hy1, hR⟩ := HY.out (pairsTo hx hy k) ⟨(x, y), bx, by'⟩ wr HJ.out (by rw [pairsTo_length]; omega)
        dsimp only [encP] at hy1
        have HR := Lib.hid hR
        clear hR hs
        gi_wp2
        refine HR.out.mono ?_
        rintro e W3 (⟨rfl, hJ3, hk3⟩ | ⟨rfl, hJx3⟩)
        · have HJ3 := Lib.hid hJ3
          clear hJ3
          gi_wp2
          go_roundw
          case rel => exact ⟨k + 1, by omega, by go_num, by rw [HS.out]; exact HJ3, hkp.trans hk3⟩
          case measure => simp [intOf]; omega
        · gi_wp2
          refine bodyPost_ret (results_none rfl _ _ _) rfl ?_
          exact ⟨⟨_, rfl⟩, .inr ⟨_, trivial, hJx3⟩⟩
      · skip
        obtain ⟨x, y, bx, by', ex, ey, hs⟩ : ∃ (x y : Nat) (h1 : x < 4294967296) (h2 : y < 4294967296), xs.getD k 0 = x ∧ ys.getD k 0 = y ∧ pairsTo hx hy (k + 1) = pairsTo hx hy k ++ [⟨(x, y), h1, h2⟩] := ⟨_, _, hx.getD k, hy.getD k, rfl, rfl, pairsTo_succ hx hy k⟩
        obtain rfl : x = 0 := by rw [← ex]; simp [List.getD, show xs.length ≤ k by rw [HXr.out.1]; omega]
        clear ex
        have hbn : decide (k < n) = false := by simp; omega
        obtain ⟨bY, oY, rfl, hbY, hcY⟩ := HYr.out.2.2 (by omega)
        have cY := hcY k hkm
        rw [ey] at cY
        clear hcY ey
        have hbm : decide (k < m) = true := by simp; omega
        have h02 : (k : Int) < (m : Int) := by omega
        have h00 : (0 : Int) ≤ (k : Int) := by omega
        have HS := Lib.hid hs
        obtain ⟨fn, tmps, assign, body, hy1, hR⟩ := HY.out (pairsTo hx hy k) ⟨(0, y), bx, by'⟩ wr HJ.out (by rw [pairsTo_length]; omega)
        dsimp only [encP] at hy1
        simp only [Int.natCast_zero] at hy1
        have HR := Lib.hid hR
        clear hR hs
        gi_wp2
        refine HR.out.mono ?_
        rintro e W3 (⟨rfl, hJ3, hk3⟩ | ⟨rfl, hJx3⟩)
        · have HJ3 := Lib.hid hJ3
          clear hJ3
          gi_wp2
          go_roundw
          case rel => exact ⟨k + 1, by omega, by go_num, by rw [HS.out]; exact HJ3, hkp.trans hk3⟩
          case measure => simp [intOf]; omega
        · gi_wp2
          refine bodyPost_ret (results_none rfl _ _ _) rfl ?_
          exact ⟨⟨_, rfl⟩, .inr ⟨_, trivial, hJx3⟩⟩
    · have hbv : decide (k < m) = false := by simp; omega
      have hkN : k = m := by omega
      have HJE := HJ.out
      rw [hkN] at HJE
      clear hkN
      gi_wp2
      go_end0
      exact ⟨⟨_, rfl⟩, .inl ⟨_, rfl, HJE⟩⟩

set_option maxRecDepth 100000 in
set_option maxHeartbeats 2000000 in
theorem pairs1_n (l : Nat) (A : Option Addr) (n c : Nat) (xs : List Nat) (B : Option Addr) (m d : Nat) (ys : List Nat) (p q n0 : Nat) (hx : Words xs) (hy : Words ys) (hn : n ≤ 1073741824) (hm : m ≤ 1073741824) (hnm : m ≤ n)
    (hA : 0 < n → ∀ b off, A = some ⟨b, off, none⟩ → b < n0) (hB : 0 < m → ∀ b off, B = some ⟨b, off, none⟩ → b < n0) (J Jx : List Pair → World → Prop)
    (hY : ∀ pre x W, J pre W → pre.length < n → YieldAt Fence.wide 1 Try.prog l (encP x) W fun e W' =>
      (e = .returned (.bool true) ∧ J (pre ++ [x]) W' ∧ Kp n0 p q W W') ∨ (e = .returned (.bool false) ∧ Jx (pre ++ [x]) W'))
    (W : World) (hp : W.heap[p]? = some (.cells #[.slice A n c] 68 (0, 0))) (hq : W.heap[q]? = some (.cells #[.slice B m d] 68 (0, 0))) (hwx : WordsAt W A n xs) (hwy : WordsAt W B m ys) (h0 : J [] W) :
    CallsIn Fence.wide 2 Try.prog 103 #[.func (.yield l) #[] #[], .pointer (some ⟨p, 0, none⟩), .pointer (some ⟨q, 0, none⟩)] W fun e W' => (∃ v, e = .returned v) ∧
      ((∃ zs, zs = pairsTo hx hy n ∧ J zs W') ∨ (∃ pre, True ∧ Jx pre W')) := by
  have c1 : W.cell? ⟨p, 0, none⟩ = some (.slice A n c) := by simp [World.cell?, hp]
  have c2 : W.cell? ⟨q, 0, none⟩ = some (.slice B m d) := by simp [World.cell?, hq]
  have HWX := Lib.hid hwx
  have HWY := Lib.hid hwy
  have HY := Lib.hid hY
  have H0 := Lib.hid h0
  clear hp hq hwx hwy hY h0
  refine callsIn_of_wp Try.func103 rfl trivial ?_ rfl
  simp only [Try.ntmps103, List.size_toArray, List.length_cons, List.length_nil, Nat.reduceAdd, Nat.reduceSub, Array.replicate_succ, Array.replicate_zero, List.push_toArray, List.append_toArray, List.nil_append, List.cons_append]
  gi_wp2
  gi_loopw [12] (fun i wr => ∃ k : Nat, k ≤ n ∧ i = .int .i64 k ∧ Hid (J (pairsTo hx hy k) wr) ∧ Kp n0 p q W wr) (fun i _ => n - (intOf i).toNat)
  case atStart => exact ⟨0, Nat.zero_le _, rfl, H0, Kp.refl _ _ _ _⟩
  case round =>
    obtain ⟨k, hk, rfl, HJ, hkp⟩ := hrel
    have d1 : wr.cell? ⟨p, 0, none⟩ = some (.slice A n c) := (World.cell?_of_block hkp.p).trans c1
    have d2 : wr.cell? ⟨q, 0, none⟩ = some (.slice B m d) := (World.cell?_of_block hkp.q).trans c2
    have HXr := Lib.hid (hkp.words hA HWX.out)
    have HYr := Lib.hid (hkp.words hB HWY.out)
    by_cases hlt : k < n
    · have hbv : decide (k < n) = true := by simp; omega
      have hkn : k < n := hlt
      by_cases hkm : k < m
      · skip
        obtain ⟨x, y, bx, by', ex, ey, hs⟩ : ∃ (x y : Nat) (h1 : x < 4294967296) (h2 : y < 4294967296), xs.getD k 0 = x ∧ ys.getD k 0 = y ∧ pairsTo hx hy (k + 1) = pairsTo hx hy k ++ [⟨(x, y), h1, h2⟩] := ⟨_, _, hx.getD k, hy.getD k, rfl, rfl, pairsTo_succ hx hy k⟩
        obtain ⟨bX, oX, rfl, hbX, hcX⟩ := HXr.out.2.2 (by omega)
        have cX := hcX k hkn
        rw [ex] at cX
        clear hcX ex
        have hbn : decide (k < n) = true := by simp; omega
        have h01 : (k : Int) < (n : Int) := by omega
        obtain ⟨bY, oY, rfl, hbY, hcY⟩ := HYr.out.2.2 (by omega)
        have cY := hcY k hkm
        rw [ey] at cY
        clear hcY ey
        have hbm : decide (k < m) = true := by simp; omega
        have h02 : (k : Int) < (m : Int) := by omega
        have h00 : (0 : Int) ≤ (k : Int) := by omega
        have HS := Lib.hid hs
        obtain ⟨fn, tmps, assign, body, hy1, hR⟩ := HY.out (pairsTo hx hy k) ⟨(x, y), bx, by'⟩ wr HJ.out (by rw [pairsTo_length]; omega)
        dsimp only [encP] at hy1
        have HR := Lib.hid hR
        clear hR hs
        gi_wp2
        refine HR.out.mono ?_
        rintro e W3 (⟨rfl, hJ3, hk3⟩ | ⟨rfl, hJx3⟩)
        · have HJ3 := Lib.hid hJ3
          clear hJ3
          gi_wp2
          go_roundw
          case rel => exact ⟨k + 1, by omega, by go_num, by rw [HS.out]; exact HJ3, hkp.trans hk3⟩
          case measure => simp [intOf]; omega
        · gi_wp2
          refine bodyPost_ret (results_none rfl _ _ _) rfl ?_
          exact ⟨⟨_, rfl⟩, .inr ⟨_, trivial, hJx3⟩⟩
      · skip
        obtain ⟨x, y, bx, by', ex, ey, hs⟩ : ∃ (x y : Nat) (h1 : x < 4294967296) (h2 : y < 4294967296), xs.getD k 0 = x ∧ ys.getD k 0 = y ∧ pairsTo hx hy (k + 1) = pairsTo hx hy k ++ [⟨(x, y), h1, h2⟩] := ⟨_, _, hx.getD k, hy.getD k, rfl, rfl, pairsTo_succ hx hy k⟩
        obtain ⟨bX, oX, rfl, hbX, hcX⟩ := HXr.out.2.2 (by omega)
        have cX := hcX k hkn
        rw [ex] at cX
        clear hcX ex
        have hbn : decide (k < n) = true := by simp; omega
        have h01 : (k : Int) < (n : Int) := by omega
        obtain rfl : y = 0 := by rw [← ey]; simp [List.getD, show ys.length ≤ k by rw [HYr.out.1]; omega]
        clear ey
        have hbm : decide (k < m) = false := by simp; omega
        have h00 : (0 : Int) ≤ (k : Int) := by omega
        have HS := Lib.hid hs
        obtain ⟨fn, tmps, assign, body, hy1, hR⟩ := HY.out (pairsTo hx hy k) ⟨(x, 0), bx, by'⟩ wr HJ.out (by rw [pairsTo_length]; omega)
        dsimp only [encP] at hy1
        simp only [Int.natCast_zero] at hy1
        have HR := Lib.hid hR
        clear hR hs
        gi_wp2
        refine HR.out.mono ?_
        rintro e W3 (⟨rfl, hJ3, hk3⟩ | ⟨rfl, hJx3⟩)
        · have HJ3 := Lib.hid hJ3
          clear hJ3
          gi_wp2
          go_roundw
          case rel => exact ⟨k + 1, by omega, by go_num, by rw [HS.out]; exact HJ3, hkp.trans hk3⟩
          case measure => simp [intOf]; omega
        · gi_wp2
          refine bodyPost_ret (results_none rfl _ _ _) rfl ?_
          exact ⟨⟨_, rfl⟩, .inr ⟨_, trivial, hJx3⟩⟩
    · have hbv : decide (k < n) = false := by simp; omega
      have hkN : k = n := by omega
      have HJE := HJ.out
      rw [hkN] at HJE
      clear hkN
      gi_wp2
      go_end0
      exact ⟨⟨_, rfl⟩, .inl ⟨_, rfl, HJE⟩⟩
end Go.Proofs.Ytkdbpcenehhopaa
