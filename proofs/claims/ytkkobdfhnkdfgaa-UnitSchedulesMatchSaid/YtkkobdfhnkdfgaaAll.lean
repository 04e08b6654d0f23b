/- The contract of pylonref26.all: all schedules of a length, in lexicographic order. -/
import Derived.Test.YtkkobdfhnkdfgaaSetOn
namespace Go.Proofs.Ytkkobdfhnkdfgaa
open Go.RowKit

/-- All lists of n bools, in order, false before true. -/
def bitsL : Nat → List (List Bool)
  | 0 => [[]]
  | n + 1 => (bitsL n).map (false :: ·) ++ (bitsL n).map (true :: ·)
theorem bitsL_len : ∀ n, (bitsL n).length = 2 ^ n
  | 0 => rfl
  | n + 1 => by simp [bitsL, bitsL_len n, Nat.pow_succ]; omega
theorem bitsL_mem : ∀ n, ∀ xs ∈ bitsL n, xs.length = n
  | 0 => by simp [bitsL]
  | n + 1 => by
    intro xs hx
    simp only [bitsL, List.mem_append, List.mem_map] at hx
    rcases hx with ⟨y, hy, rfl⟩ | ⟨y, hy, rfl⟩ <;> simp [bitsL_mem n y hy]
def firstL (n k : Nat) : List (List Bool) := ([false, true].take k).flatMap fun b => (bitsL n).map (b :: ·)
theorem firstL_next (n : Nat) {k : Nat} (hk : k < 2) : firstL n (k + 1) = firstL n k ++ (bitsL n).map (decide (k = 1) :: ·) := by
  have h : k = 0 ∨ k = 1 := by omega
  rcases h with rfl | rfl <;> simp [firstL]
theorem firstL_all (n : Nat) : firstL n 2 = bitsL (n + 1) := by simp [firstL, bitsL]
theorem firstL_len (n : Nat) {k : Nat} (hk : k ≤ 2) : (firstL n k).length ≤ 2 * 2 ^ n := by
  have h : k = 0 ∨ k = 1 ∨ k = 2 := by omega
  rcases h with rfl | rfl | rfl <;> simp [firstL, bitsL_len] <;> omega

theorem wpList_append_at {P : Program} (w : World) {ops : Array Oper} {rest : List Oper} {o : Oper} {a : Act} {Q : Exit → Act → World → Prop} (hgd : o.guard = none) (s x : Operand) (t : TypeId)
    (ho : o.op = .call { callee := .builtin .append, args := #[s, x], argTypes := #[t, t] })
    (base : Nat) (e : TypeId) (i : TypeInfo) (z : Value) (size bytes : Nat) (ht : P.underlying t = some (.slice e)) (hi : P.info? e = some i) (hz : i.zero = some z)
    (hsize : i.size = size) (hby : i.bytes = bytes) (hzs : z.cells.size = size) (hsz : 0 < size)
    (v : Value) (n : Nat) (xs : List Value) (hs : a.eval s = v) (hown : w.ownsRow base e size v n xs)
    (ad : Addr) (m c : Nat) (news : List Value) (hx : a.eval x = .slice (some ad) m c) (hl : news.length = m * size) (hnews : ∀ j u, news[j]? = some u → w.cell? (ad.add j) = some u) (h1 : ∀ u ∈ news, u.oneCell' = true)
    (hv : v ≠ .slice none 0 0 ∨ 0 < m) (h63 : n + m ≤ maxLen) (hbytes : (n + m) * bytes ≤ 140737488355328) (hbase : base ≤ w.heap.size)
    (h : ∀ g cap w', w'.ownsRow base e size (.slice (some ⟨g, 0, none⟩) (n + m) cap) (n + m) (xs ++ news) → w.grownBy w' v.ownBlock → (v.ownBlock = some g ∨ g = w.heap.size) → wpList P ops Q rest (a.put o.dst (.slice (some ⟨g, 0, none⟩) (n + m) cap)) w') :
    wpList P ops Q (o :: rest) a w :=
  wpList_plain hgd fun _ hK => wp_append_at w s x t ho base e i z size bytes ht hi hz hsize hby hzs hsz v n xs hs hown ad m c news hx hl hnews h1 hv h63 hbytes hbase fun g cap w' h2 h3 h4 => hK _ _ (h g cap w' h2 h3 h4)

/-- One schedule more. -/
theorem lists_snoc {w w1 w2 : World} {B hrs : Nat} {v : Value} {L : List (List Bool)} {FC : List (Nat × Nat)} {xs : List Bool} {g1 cap1 g2 cap2 : Nat} {o2 : Obj}
    (ho : w.ownsRow B 32 1 v L.length (FC.map (hdr hrs))) (hpw : (FC.map (·.1)).Pairwise (· < ·)) (hfl : FC.length = L.length)
    (hel : ∀ (i : Nat) (p : Nat × Nat), FC[i]? = some p → ∃ ys : List Bool, L[i]? = some ys ∧ w.ownsRow B 4 1 (hdr hrs p) hrs (ys.map Value.bool))
    (k1 : ∀ k, k < w.heap.size → w1.heap[k]? = w.heap[k]?) (hz1 : w.heap.size ≤ w1.heap.size) (ho1 : w1.ownsRow B 4 1 (hdr hrs (g1, cap1)) hrs (xs.map Value.bool)) (hg1w : w.heap.size ≤ g1)
    (hg2 : (w1.alloc o2).grownBy w2 v.ownBlock) (ho2 : w2.ownsRow B 32 1 (.slice (some ⟨g2, 0, none⟩) (L.length + 1) cap2) (L.length + 1) (FC.map (hdr hrs) ++ [hdr hrs (g1, cap1)])) :
    Lists w2 B hrs (.slice (some ⟨g2, 0, none⟩) (L.length + 1) cap2) (L ++ [xs]) := by
  have k2 : ∀ k, k < w1.heap.size → v.ownBlock ≠ some k → w2.heap[k]? = w1.heap[k]? := fun k hk hne =>
    (hg2.block k (by simp; omega) (Ne.symm hne)).trans (Below.heap_alloc w1 o2 k hk)
  have hvb : ∀ g, v.ownBlock = some g → g < w.heap.size := fun g hg => (own_lt ho hg).1
  have hg1l : g1 < w1.heap.size := (own_lt ho1 rfl).1
  have kw : ∀ k, k < w.heap.size → v.ownBlock ≠ some k → w2.heap[k]? = w.heap[k]? := fun k hk hne => (k2 k (by omega) hne).trans (k1 k hk)
  refine ⟨FC ++ [(g1, cap1)], by simpa using ho2, ?_, by simp [hfl], ?_⟩
  · rw [List.map_append, List.pairwise_append]
    refine ⟨hpw, by simp, ?_⟩
    intro a ha b hb
    obtain ⟨p, hp, rfl⟩ := List.mem_map.1 ha
    obtain ⟨i, hi, hip⟩ := List.getElem_of_mem hp
    obtain ⟨ys, _, hx⟩ := hel i p (by rw [List.getElem?_eq_getElem hi, hip])
    have := (own_lt hx (g := p.1) rfl).1
    simp at hb
    subst hb
    omega
  · intro i p hp
    rcases Nat.lt_or_ge i FC.length with hi | hi
    · rw [List.getElem?_append_left hi] at hp
      obtain ⟨ys, e, hx⟩ := hel i p hp
      refine ⟨ys, by rw [List.getElem?_append_left (by omega)]; exact e, own_keep hx fun g hg => ?_⟩
      exact kw g (own_lt hx hg).1 (own_ne_own hx ho (by decide) hg)
    · rw [List.getElem?_append_right hi] at hp
      have hi0 : i = FC.length := by
        rcases Nat.eq_or_lt_of_le hi with e | e
        · exact e.symm
        · rw [List.getElem?_eq_none (by simp; omega)] at hp; cases hp
      subst hi0
      simp at hp
      subst hp
      refine ⟨xs, by rw [List.getElem?_append_right (by omega)]; simp [hfl], own_keep ho1 fun g hg => ?_⟩
      have hgg : g1 = g := by simpa [Value.ownBlock] using hg
      subst hgg
      refine k2 g1 hg1l fun e => ?_
      have := hvb g1 e
      omega
end Go.Proofs.Ytkkobdfhnkdfgaa
