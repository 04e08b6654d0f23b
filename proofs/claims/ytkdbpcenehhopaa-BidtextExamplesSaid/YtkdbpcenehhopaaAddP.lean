/- Contracts of whole.addWords and whole.subWords. -/
import Derived.Test.YtkdbpcenehhopaaPairs
import Derived.RangeFuncBox
import Derived.OwnWalk
import Derived.Maps.AppendAt
import Derived.Deep.AppendLies
namespace Go.Proofs.Ytkdbpcenehhopaa
open Go.RowKit Go.Shelf
attribute [local go_sem] Oper.semAt_some

theorem info_u32 : (Try.prog.info? 120).map (fun i => (i.zero, i.size, i.bytes)) = some (some (.int .u32 0), 1, 4) := by kernel_rfl
/-- The cells of words. -/
def u32s (S : List Nat) : List Value := S.map fun (x : Nat) => Value.int .u32 (x : Int)
theorem u32s_len (S : List Nat) : (u32s S).length = S.length := by simp [u32s]
theorem u32s_one (S : List Nat) : ∀ u ∈ u32s S, u.oneCell' = true := by
  intro u hu
  obtain ⟨x, _, rfl⟩ := List.mem_map.1 hu
  rfl
theorem u32s_snoc (S : List Nat) (x : Nat) : u32s (S ++ [x]) = u32s S ++ [.int .u32 (x : Int)] := by simp [u32s]
theorem own_words {w : World} {base g n c : Nat} {S : List Nat} (h : w.ownsRow base 120 1 (.slice (some ⟨g, 0, none⟩) n c) n (u32s S)) (hw : Words S) : WordsAt w (some ⟨g, 0, none⟩) n S := by
  have hl : S.length = n := by have := h.1; simpa [u32s] using this
  refine ⟨hl, hw, fun hn => ⟨g, 0, rfl, (h.lt g rfl).2, fun i hi => ?_⟩⟩
  rw [Nat.zero_add, h.cellAt i (by omega)]
  simp [u32s, List.getD, show i < S.length by omega]
theorem own_fresh {w : World} {base g n c : Nat} {S : List Value} {e : TypeId} {B : Nat} (h : w.ownsRow base e 1 (.slice (some ⟨g, 0, none⟩) n c) n S) (hB : B ≤ g) : Fresh w B (some ⟨g, 0, none⟩) := fun ad ha => by
  injection ha with ha
  subst ha
  exact ⟨g, 0, rfl, hB, (h.lt g rfl).2, fun i => h.frozenAt _⟩

/-- The state between two rounds: the row s, its variable, the carry and its function. -/
structure AddSt (w W : World) (s cap : Nat) (S : List Nat) (c : Nat) : Prop where
  own : W.ownsRow s 120 1 (.slice (some ⟨s, 0, none⟩) S.length cap) S.length (u32s S)
  bS : Boxed W (s + 1) 68 (.slice (some ⟨s, 0, none⟩) S.length cap)
  bC : Boxed W (s + 2) 109 (.int .u64 (c : Int))
  bN : Boxed W (s + 3) 149 (carV (s + 2))
  bel : Below s w W
theorem AddSt.size {w W : World} {s cap : Nat} {S : List Nat} {c : Nat} (h : AddSt w W s cap S c) : s + 3 < W.heap.size := h.bN.lt
theorem own_row_block {W : World} {s e n c base : Nat} {xs : List Value} (h : W.ownsRow base e 1 (.slice (some ⟨s, 0, none⟩) n c) n xs) : ∃ cur, W.heap[s]? = some (.cells cur e (0, 0)) := by
  rcases h.2 with ⟨h', _⟩ | ⟨g', cap', cur, h', _, hg, _⟩
  · simp at h'
  · simp only [Value.slice.injEq, Option.some.injEq, Addr.mk.injEq, and_true, true_and] at h'
    obtain ⟨rfl, rfl⟩ := h'
    exact ⟨cur, hg⟩
/-- It abides new blocks, and a turn of a block from s on that is no cells. -/
theorem AddSt.grown {w W W' : World} {s cap : Nat} {S : List Nat} {c : Nat} (h : AddSt w W s cap S c) {row : Option Nat} (hg : W.grownBy W' row) (hr : ∀ r, row = some r → s ≤ r ∧ ∃ o : Obj, W.heap[r]? = some o ∧ o.isCells = false) : AddSt w W' s cap S c := by
  have nb : ∀ {B : Nat} {t : TypeId} {v : Value}, Boxed W B t v → some B ≠ row := fun {B t v} hb e => by
    obtain ⟨_, o, ho, hc⟩ := hr B e.symm
    rw [show W.heap[B]? = _ from hb] at ho; cases ho; cases hc
  refine ⟨h.own.kept hg (.inr fun e => ?_), h.bS.kept hg (nb h.bS), h.bC.kept hg (nb h.bC), h.bN.kept hg (nb h.bN), h.bel.grown hg (by have := h.size; omega) fun k e => (hr k e).1⟩
  obtain ⟨cur, hcur⟩ := own_row_block h.own
  obtain ⟨_, o, ho, hc⟩ := hr s (by simpa [Value.ownBlock] using e.symm)
  rw [hcur] at ho; cases ho; cases hc
theorem AddSt.drew {w W : World} {s cap : Nat} {S : List Nat} {c : Nat} (h : AddSt w W s cap S c) : AddSt w W.drew s cap S c := ⟨h.own, h.bS, h.bC, h.bN, h.bel.drew⟩

/-- The worlds of one round. -/
abbrev putC (W : World) (s c : Nat) : World := W.setCell ⟨s + 2, 0, none⟩ (.int .u64 (c : Int))
abbrev newW (W : World) (x : Nat) : World := W.alloc (.cells #[.int .u32 (x : Int)] 120)
/-- Behind the call of next: the row and the variables. -/
theorem AddSt.put {w W : World} {s cap : Nat} {S : List Nat} {c : Nat} (h : AddSt w W s cap S c) (c' : Nat) : AddSt w (putC W s c') s cap S c' := by
  have hg := grownBy_setCell' W (s + 2) (.int .u64 (c' : Int))
  refine ⟨h.own.kept hg (.inr ?_), h.bS.other (by omega) _, h.bC.set _, h.bN.other (by omega) _, h.bel.setCell (p := ⟨s + 2, 0, none⟩) (by simp) _⟩
  simp [Value.ownBlock]
theorem AddSt.new {w W : World} {s cap : Nat} {S : List Nat} {c : Nat} (h : AddSt w W s cap S c) (o : Obj) : AddSt w (W.alloc o) s cap S c := h.grown (World.grownBy_alloc W o none) (fun r e => by cases e)
theorem addst_app {w W W' : World} {s cap : Nat} {S : List Nat} {c x : Nat} (h : AddSt w W s cap S c) (hg : W.grownBy W' (some s)) (ho : W'.ownsRow s 120 1 (.slice (some ⟨s, 0, none⟩) (S.length + 1) cap) (S.length + 1) (u32s S ++ [.int .u32 (x : Int)])) :
    Boxed W' (s + 1) 68 (.slice (some ⟨s, 0, none⟩) S.length cap) ∧ AddSt w (W'.setCell ⟨s + 1, 0, none⟩ (.slice (some ⟨s, 0, none⟩) (S.length + 1) cap)) s cap (S ++ [x]) c := by
  have b1 : Boxed W' (s + 1) 68 (.slice (some ⟨s, 0, none⟩) S.length cap) := h.bS.kept hg (by simp)
  have hg2 := grownBy_setCell' W' (s + 1) (.slice (some ⟨s, 0, none⟩) (S.length + 1) cap)
  refine ⟨b1, ?_, ?_, (h.bC.kept hg (by simp)).other (by omega) _, (h.bN.kept hg (by simp)).other (by omega) _, (h.bel.grown hg (by have := h.size; omega) (fun k e => by cases e; exact Nat.le_refl _)).setCell (p := ⟨s + 1, 0, none⟩) (by simp) _⟩
  · have := ho.kept hg2 (.inr (by simp [Value.ownBlock]))
    rw [u32s_snoc, List.length_append]
    exact this
  · rw [List.length_append]
    exact b1.set _
theorem keeps_all {W W' _W'' : World} {s c _x _cap : Nat} {o : Obj} {v : Value} (hr : ∃ cur t, W.heap[s]? = some (.cells cur t (0, 0))) (hs : s + 2 < W.heap.size) (hg : ((W.drew.setCell ⟨s + 2, 0, none⟩ (.int .u64 (c : Int))).alloc o).grownBy W' (some s)) :
    KeepsOthers W (W'.setCell ⟨s + 1, 0, none⟩ v) := by
  refine ((((KeepsOthers.drew W).trans (KeepsOthers.setCell _ _ _)).trans (KeepsOthers.alloc _ _)).trans (KeepsOthers.of_grownBy hg fun j o' ej hj => ?_)).trans (KeepsOthers.setCell _ _ _)
  cases ej
  obtain ⟨cur, t, hcur⟩ := hr
  have e1 := Below.heap_alloc (W.drew.setCell ⟨s + 2, 0, none⟩ (.int .u64 (c : Int))) o s (by simp [World.setCell]; omega)
  have e2 := Below.heap_setCell W.drew ⟨s + 2, 0, none⟩ (.int .u64 (c : Int)) s (by simp)
  rw [e1, e2, show W.drew.heap[s]? = W.heap[s]? from rfl, hcur] at hj
  cases hj
  rfl
theorem kp_all {W W' : World} {s c p q : Nat} {o : Obj} {v : Value} (hp : s + 2 < p) (hq : s + 2 < q) (hpl : p < W.heap.size) (hql : q < W.heap.size) (hg : ((W.drew.setCell ⟨s + 2, 0, none⟩ (.int .u64 (c : Int))).alloc o).grownBy W' (some s)) :
    Kp s p q W (W'.setCell ⟨s + 1, 0, none⟩ v) := by
  have key : ∀ k, k < W.heap.size → k ≠ s → k ≠ s + 1 → k ≠ s + 2 → (W'.setCell ⟨s + 1, 0, none⟩ v).heap[k]? = W.heap[k]? := fun k hk h0 h1 h2 => by
    rw [Below.heap_setCell W' ⟨s + 1, 0, none⟩ v k (by simpa using h1), hg.block k (by simp [World.setCell]; omega) (by simpa using h0), Below.heap_alloc _ _ _ (by simp [World.setCell]; exact hk), Below.heap_setCell W.drew ⟨s + 2, 0, none⟩ _ k (by simpa using h2)]
    rfl
  refine ⟨?_, fun k hk => ?_, key p hpl (by omega) (by omega) (by omega), key q hql (by omega) (by omega) (by omega)⟩
  · have := hg.size
    simp [World.setCell] at this ⊢
    omega
  · rcases Nat.lt_or_ge k W.heap.size with hkl | hkl
    · exact key k hkl (by omega) (by omega) (by omega)
    · omega
/-- The next word and carry. -/
theorem carry_step {S : List Nat} {c v T : Nat} (h : natOf S + 4294967296 ^ S.length * c = T) : natOf (S ++ [(v + c) % 4294967296]) + 4294967296 ^ (S ++ [(v + c) % 4294967296]).length * ((v + c) / 4294967296) = T + 4294967296 ^ S.length * v := by
  rw [natOf_snoc, List.length_append, List.length_singleton, Nat.pow_succ]
  generalize (4294967296 : Nat) ^ S.length = P at *
  have e : (v + c) % 4294967296 + 4294967296 * ((v + c) / 4294967296) = v + c := Nat.mod_add_div _ _
  rw [Nat.mul_assoc, Nat.add_assoc, ← Nat.mul_add, e, Nat.mul_add, ← h]
  omega
theorem Blk'lt {w : World} {p : Nat} {o : Obj} (h : w.heap[p]? = some o) : p < w.heap.size := (Array.getElem?_eq_some_iff.1 h).1
theorem inX_grown {w0 w1 w2 : World} {X : List Nat} (h : InX w0 X w1) {row : Option Nat} (hg : w1.grownBy w2 row) (hr : ∀ k, row = some k → k ∈ X) : InX w0 X w2 := by
  obtain ⟨x, rfl⟩ := h
  exact ⟨⟨w2, Nat.le_trans x.size hg.size, fun k hk hX => (hg.block k (Nat.lt_of_lt_of_le hk x.size) (fun e => hX (hr k e.symm))).trans (x.same k hk hX)⟩, rfl⟩
theorem natOf_map_snoc {v : Pair → Nat} (pre : List Pair) (x : Pair) : natOf ((pre ++ [x]).map v) = natOf (pre.map v) + 4294967296 ^ pre.length * v x := by
  rw [List.map_append, List.map_singleton, natOf_snoc, List.length_map]
theorem fst_to {xs ys : List Nat} (hx : Words xs) (hy : Words ys) : ∀ k, natOf ((pairsTo hx hy k).map fun p => p.1.1) = natOf (xs.take k)
  | 0 => by simp [pairsTo, natOf]
  | k + 1 => by rw [pairsTo_succ, natOf_map_snoc, fst_to hx hy k, natOf_take_succ, pairsTo_length]
theorem snd_to {xs ys : List Nat} (hx : Words xs) (hy : Words ys) : ∀ k, natOf ((pairsTo hx hy k).map fun p => p.1.2) = natOf (ys.take k)
  | 0 => by simp [pairsTo, natOf]
  | k + 1 => by rw [pairsTo_succ, natOf_map_snoc, snd_to hx hy k, natOf_take_succ, pairsTo_length]
/-- What addWords adds, and what subWords adds, in a round. -/
def vAdd (p : Pair) : Nat := p.1.1 + p.1.2
def vSub (p : Pair) : Nat := p.1.1 + (4294967295 - p.1.2)
theorem vAdd_to : ∀ pre : List Pair, natOf (pre.map vAdd) = natOf (pre.map fun p => p.1.1) + natOf (pre.map fun p => p.1.2)
  | [] => rfl
  | x :: pre => by
    simp only [List.map_cons, natOf, vAdd_to pre, vAdd]
    omega
theorem vSub_to : ∀ pre : List Pair, 1 + natOf (pre.map vSub) + natOf (pre.map fun p => p.1.2) = natOf (pre.map fun p => p.1.1) + 4294967296 ^ pre.length
  | [] => rfl
  | x :: pre => by
    have ih := vSub_to pre
    have hx := x.2.2
    simp only [List.map_cons, natOf, vSub, List.length_cons, Nat.pow_succ]
    generalize natOf (pre.map vSub) = a at *
    generalize natOf (pre.map fun p => p.1.2) = b at *
    generalize natOf (pre.map fun p => p.1.1) = d at *
    generalize (4294967296 : Nat) ^ pre.length = P at *
    omega
end Go.Proofs.Ytkdbpcenehhopaa
