/- append onto an own row of ints, from a source that may be nil. -/
import Derived.Test.YtppcpklnnbgcjaaGreatRefE
namespace Go.Proofs.YtppcpklnnbgcjaaGreat
open Go.RowKit

theorem one_ints (row : List Nat) : ∀ u ∈ i64s row, u.oneCell' = true := fun u hu => by
  obtain ⟨x, _, rfl⟩ := List.mem_map.1 hu
  rfl
set_option maxRecDepth 100000 in
theorem run_append_int (w : World) (base ty : Nat) (v : Value) (n : Nat) (xs : List Value) (hown : w.ownsRow base 3 1 v n xs) (R : Option Addr) (m d : Nat) (row : List Nat) (hsrc : HalfAt w R m row)
    (hv : v ≠ .slice none 0 0 ∨ 0 < m) (h63 : n + m ≤ 1000000) (hbase : base ≤ w.heap.size) :
    ∃ g cap w', (Builtin.append_ #[79, 79] ty #[v, .slice R m d]).run Tryz.prog w = .ok (.slice (some ⟨g, 0, none⟩) (n + m) cap) w' ∧ w'.ownsRow base 3 1 (.slice (some ⟨g, 0, none⟩) (n + m) cap) (n + m) (xs ++ i64s row) ∧
      w.grownBy w' v.ownBlock ∧ (v.ownBlock = some g ∨ g = w.heap.size) := by
  obtain ⟨i0, hi0, hz0, hz1, hz2⟩ := info_parts info_int
  rcases R with _ | ad
  · have hm : m = 0 := by
      rcases Nat.eq_zero_or_pos m with h0 | h0
      · exact h0
      · obtain ⟨_, _, e, _⟩ := hsrc.2.2 h0; cases e
    subst hm
    have hrow : row = [] := List.eq_nil_of_length_eq_zero hsrc.1
    subst hrow
    rcases hown.2 with ⟨rfl, _⟩ | ⟨g, cap, cur, rfl, h1, h2, h3, h4⟩
    · rcases hv with hv | hv
      · exact absurd rfl hv
      · omega
    · refine ⟨g, cap, w, ?_, by simpa [i64s] using hown, World.grownBy.refl w _, .inl rfl⟩
      simp [Builtin.append_, run_underlying Tryz.underlying79, sizeOf, typeInfo, hi0, Builtin.lenOf, Builtin.firstCells, h3, storeCells]
  · have hnews : ∀ j x, (i64s row)[j]? = some x → w.cell? (ad.add j) = some x := by
      intro j x hx
      rcases Nat.eq_zero_or_pos m with h0 | h0
      · have hrow : row = [] := List.eq_nil_of_length_eq_zero (by rw [hsrc.1, h0])
        subst hrow
        simp [i64s] at hx
      · obtain ⟨b, off, e, hlt, hc⟩ := hsrc.2.2 h0
        injection e with e
        subst e
        have hj : j < row.length := by
          rcases Nat.lt_or_ge j row.length with h | h
          · exact h
          · rw [List.getElem?_eq_none (by rw [i64s_len]; exact h)] at hx; cases hx
        have : (⟨b, off, none⟩ : Addr).add j = ⟨b, off + j, none⟩ := by unfold Addr.add; split <;> simp_all
        rw [this, hc j (by rw [← hsrc.1]; exact hj), ← hx]
        simp [i64s, List.getD, hj]
    obtain ⟨v', w', hrun, h2, h3, h4, h5⟩ := run_append_own_at (P := Tryz.prog) w base 79 ty 3 i0 _ 1 8 Tryz.underlying79 hi0 hz0 hz1 hz2 rfl (by omega) v n xs hown ad m d (i64s row) (by rw [i64s_len, hsrc.1]; omega) hnews (one_ints row) (by simp [maxLen]; omega) (by omega) hbase
    rcases h2.2 with ⟨hn, _⟩ | ⟨g, cap, cur, rfl, h6⟩
    · exact absurd (h4.1 hn) (by rintro ⟨e1, e2⟩; rcases hv with hv | hv; exact hv e1; omega)
    · refine ⟨g, cap, w', hrun, h2, h3, ?_⟩
      rcases h5 with h5 | h5
      · exact .inl h5.symm
      · exact .inr (by simpa [Value.ownBlock] using h5)
theorem wpList_append_int (w : World) {ops : Array Oper} {rest : List Oper} {o : Oper} {a : Act} {Q : Exit → Act → World → Prop} (hgd : o.guard = none) (s x : Operand)
    (ho : o.op = .call { callee := .builtin .append, args := #[s, x], argTypes := #[79, 79] })
    (base : Nat) (v : Value) (n : Nat) (xs : List Value) (hs : a.eval s = v) (hown : w.ownsRow base 3 1 v n xs) (R : Option Addr) (m d : Nat) (row : List Nat) (hx : a.eval x = .slice R m d) (hsrc : HalfAt w R m row)
    (hv : v ≠ .slice none 0 0 ∨ 0 < m) (h63 : n + m ≤ 1000000) (hbase : base ≤ w.heap.size)
    (h : ∀ g cap w', w'.ownsRow base 3 1 (.slice (some ⟨g, 0, none⟩) (n + m) cap) (n + m) (xs ++ i64s row) → w.grownBy w' v.ownBlock → (v.ownBlock = some g ∨ g = w.heap.size) → wpList Tryz.prog ops Q rest (a.put o.dst (.slice (some ⟨g, 0, none⟩) (n + m) cap)) w') :
    wpList Tryz.prog ops Q (o :: rest) a w := by
  obtain ⟨g, cap, w', hrun, h2, h3, h4⟩ := run_append_int w base o.type v n xs hown R m d row hsrc hv h63 hbase
  refine wpList_plain hgd fun K hK => ?_
  unfold Oper.wp execOp
  simp only [ho, resolve, invoke, builtin, Sem.run_bind, Sem.run_pure, Result.andThen_ok, List.map_toArray, List.map_cons, List.map_nil, hs, hx, hrun]
  exact hK _ _ (h g cap w' h2 h3 h4)
end Go.Proofs.YtppcpklnnbgcjaaGreat
