/- Plain laws of schedules: a unit whose On is one of its states; concatenations; and append of bools onto a row of the call's own. -/
import Derived.Test.YtkkobdfhnkdfgaaAwakeB
import Derived.Test.YtkkobdfhnkdfgaaOpen
namespace Go.Proofs.Ytkkobdfhnkdfgaa
open Go.RowKit

/-- The unit with another On. -/
def U.setOn (u : U) (q : Int) : U := { u with on := q }
theorem setOn_init {u : U} {q : Int} (hq : u.isState q = true) : (u.setOn q).init = q := by
  simp only [U.isState, Bool.and_eq_true, decide_eq_true_eq] at hq
  unfold U.setOn U.init
  simp only
  omega
theorem setOn_ok {u : U} (h : u.ok = true) {q : Int} (hq : u.isState q = true) : (u.setOn q).ok = true := by
  have g := U.good h
  have hc : u.check 6 = 0 := of_decide_eq_true h
  apply decide_eq_true
  unfold U.check at hc ⊢
  by_cases hb : u.okBus 6 = true
  · have hb' : (u.setOn q).okBus 6 = true := hb
    rw [if_pos hb] at hc
    rw [if_pos hb']
    by_cases hk : chk true u.steps = 0
    · have hk' : chk true (u.setOn q).steps = 0 := hk
      rw [if_pos hk] at hc
      rw [if_pos hk']
      by_cases hr : (u.okMin && u.okHold && u.okMoney && u.okSpin && u.okOn) = true
      · simp only [Bool.and_eq_true] at hr
        obtain ⟨⟨⟨⟨r1, r2⟩, r3⟩, r4⟩, _⟩ := hr
        have r5 : (u.setOn q).okOn = true := by
          obtain ⟨⟩ := g
          have : (u.setOn q).on = q := rfl
          simp only [U.isState, Bool.and_eq_true, decide_eq_true_eq] at hq
          simp only [U.okOn, Bool.and_eq_true, decide_eq_true_eq, this]
          omega
        have r1' : (u.setOn q).okMin = true := r1
        have r2' : (u.setOn q).okHold = true := r2
        have r3' : (u.setOn q).okMoney = true := r3
        have r4' : (u.setOn q).okSpin = true := r4
        rw [if_pos (by simp [r1', r2', r3', r4', r5])]
      · rw [if_neg hr] at hc; omega
    · rw [if_neg hk] at hc; omega
  · rw [if_neg hb] at hc; omega
theorem setOn_next (u : U) (q s : Int) (b : Bool) : (u.setOn q).next s b = u.next s b := rfl
theorem setOn_feasFrom (u : U) (q : Int) : ∀ (row : List Bool) (s : Int), (u.setOn q).feasFrom s row = u.feasFrom s row
  | [], _ => rfl
  | b :: r, s => by simp only [U.feasFrom, setOn_next, setOn_feasFrom u q r]
theorem setOn_feas {u : U} (h : u.ok = true) {q : Int} (hq : u.isState q = true) (row : List Bool) : (u.setOn q).feas row = u.feasFrom q row := by
  unfold U.feas
  rw [setOn_ok h hq, setOn_init hq, setOn_feasFrom]
  rfl
theorem setOn_starts {u : U} (h : u.ok = true) {q : Int} (hq : u.isState q = true) (row : List Bool) : (u.setOn q).starts row = startsFrom (decide (0 < q)) row := by
  unfold U.starts
  rw [setOn_ok h hq]
  rfl
theorem setOn_cost {u : U} (h : u.ok = true) {q : Int} (hq : u.isState q = true) (row : List Bool) : (u.setOn q).cost row = u.start * startsFrom (decide (0 < q)) row + u.idle * ons row := by
  unfold U.cost
  rw [setOn_ok h hq, setOn_starts h hq]
  rfl

def lastB : Bool → List Bool → Bool
  | p, [] => p
  | _, b :: r => lastB b r
theorem starts_append : ∀ (a b : List Bool) (p : Bool), startsFrom p (a ++ b) = startsFrom p a + startsFrom (lastB p a) b
  | [], b, p => by simp [startsFrom, lastB]
  | x :: a, b, p => by simp only [List.cons_append, startsFrom, lastB, starts_append a b x]; omega
theorem ons_append : ∀ (a b : List Bool), ons (a ++ b) = ons a + ons b
  | [], b => by simp [ons]
  | x :: a, b => by simp only [List.cons_append, ons, ons_append a b]; omega
theorem feas_append (u : U) : ∀ (a b : List Bool) (s : Int), u.feasFrom s (a ++ b) = (u.feasFrom s a && u.feasFrom (u.after s a) b)
  | [], b, s => by simp [U.feasFrom, U.after]
  | x :: a, b, s => by
    simp only [List.cons_append, U.feasFrom, U.after]
    by_cases h : u.next s x = 0
    · simp [h]
    · simp only [if_neg h, feas_append u a b]
theorem next_signS {u : U} (g : u.Good) {s : Int} (hs : u.isState s = true) {on : Bool} (h : u.next s on ≠ 0) : decide (0 < u.next s on) = on := by
  obtain ⟨⟩ := g
  simp only [U.isState, Bool.and_eq_true, decide_eq_true_eq] at hs
  unfold U.next at h ⊢
  cases on
  · simp only [Bool.false_eq_true, if_false] at h ⊢
    apply decide_eq_false
    by_cases h1 : s < 0
    · simp only [if_pos h1] at *; omega
    · simp only [if_neg h1] at *
      by_cases h2 : s = u.up
      · simp only [if_pos h2] at *; omega
      · simp only [if_neg h2] at *; omega
  · simp only [if_true] at h ⊢
    apply decide_eq_true
    by_cases h1 : 0 < s
    · simp only [if_pos h1] at *; omega
    · simp only [if_neg h1] at *
      by_cases h2 : s = -u.down
      · simp only [if_pos h2] at *; omega
      · simp only [if_neg h2] at *; omega
theorem after_state {u : U} (g : u.Good) : ∀ (a : List Bool) (s : Int), u.isState s = true → u.feasFrom s a = true → u.isState (u.after s a) = true ∧ decide (0 < u.after s a) = lastB (decide (0 < s)) a
  | [], s, hs, _ => ⟨hs, rfl⟩
  | x :: a, s, hs, h => by
    rw [U.feasFrom] at h
    by_cases h0 : u.next s x = 0
    · rw [if_pos h0] at h; cases h
    · rw [if_neg h0] at h
      have := after_state g a _ (U.next_state g hs h0) h
      rw [next_signS g hs h0] at this
      rw [U.after, if_neg h0, lastB]
      exact this
theorem init_signS {u : U} (g : u.Good) : decide (0 < u.init) = decide (0 < u.on) := by
  obtain ⟨⟩ := g
  by_cases h : 0 < u.on
  · rw [decide_eq_true h, decide_eq_true]; unfold U.init; omega
  · rw [decide_eq_false h, decide_eq_false]; unfold U.init; omega
theorem ons_bd : ∀ (a : List Bool), 0 ≤ ons a ∧ ons a ≤ a.length
  | [] => by simp [ons]
  | x :: a => by
    have := ons_bd a
    simp only [ons, List.length_cons]
    split <;> omega
theorem cost_bd {u : U} (h : u.ok = true) {a : List Bool} (hl : a.length ≤ 1000) : 0 ≤ u.cost a ∧ u.cost a ≤ 2000000000000 := by
  have g := U.good h
  have h1 := ustarts_bd u a
  have h2 := ons_bd a
  have e : u.cost a = u.start * u.starts a + u.idle * ons a := by unfold U.cost; rw [h]; rfl
  rw [e]
  have m1 : 0 ≤ u.start * u.starts a := Int.mul_nonneg g.st0 h1.1
  have m2 : 0 ≤ u.idle * ons a := Int.mul_nonneg g.id0 h2.1
  have m3 : u.start * u.starts a ≤ 1000000000 * u.starts a := Int.mul_le_mul_of_nonneg_right g.st9 h1.1
  have m4 : u.idle * ons a ≤ 1000000000 * ons a := Int.mul_le_mul_of_nonneg_right g.id9 h2.1
  omega

/-- append of a slice of bools, nil or not, onto a row of the call's own. -/
theorem run_append_src (w : World) (base ty : Nat) (v : Value) (n : Nat) (xs : List Value) (hown : w.ownsRow base 4 1 v n xs) (R : Option Addr) (m d : Nat) (row : List Bool) (hsrc : BoolsAt w R m row)
    (hv : v ≠ .slice none 0 0 ∨ 0 < m) (h63 : n + m ≤ 1000000) (hbase : base ≤ w.heap.size) :
    ∃ g cap w', (Builtin.append_ #[32, 32] ty #[v, .slice R m d]).run Try.prog w = .ok (.slice (some ⟨g, 0, none⟩) (n + m) cap) w' ∧ w'.ownsRow base 4 1 (.slice (some ⟨g, 0, none⟩) (n + m) cap) (n + m) (xs ++ row.map Value.bool) ∧
      w.grownBy w' v.ownBlock ∧ (v.ownBlock = some g ∨ g = w.heap.size) := by
  obtain ⟨i0, hi0, hz0, hz1, hz2⟩ := info_parts info_bool
  rcases R with _ | ad
  · have hm : m = 0 := by
      rcases Nat.eq_zero_or_pos m with h0 | h0
      · exact h0
      · obtain ⟨_, _, e, _⟩ := hsrc.2 h0; cases e
    subst hm
    have hrow : row = [] := List.eq_nil_of_length_eq_zero hsrc.1
    subst hrow
    rcases hown.2 with ⟨rfl, _⟩ | ⟨g, cap, cur, rfl, h1, h2, h3, h4⟩
    · rcases hv with hv | hv
      · exact absurd rfl hv
      · omega
    · refine ⟨g, cap, w, ?_, by simpa using hown, World.grownBy.refl w _, .inl rfl⟩
      simp [Builtin.append_, run_underlying Try.underlying32, sizeOf, typeInfo, hi0, Builtin.lenOf, Builtin.firstCells, h3, storeCells]
  · have hnews : ∀ j x, (row.map Value.bool)[j]? = some x → w.cell? (ad.add j) = some x := by
      intro j x hx
      rcases Nat.eq_zero_or_pos m with h0 | h0
      · have hrow : row = [] := List.eq_nil_of_length_eq_zero (by rw [hsrc.1, h0])
        subst hrow
        simp at hx
      · obtain ⟨b, off, e, hlt, hc⟩ := hsrc.2 h0
        injection e with e
        subst e
        have hj : j < row.length := by
          rcases Nat.lt_or_ge j row.length with h | h
          · exact h
          · rw [List.getElem?_eq_none (by simpa using h)] at hx; cases hx
        have : (⟨b, off, none⟩ : Addr).add j = ⟨b, off + j, none⟩ := by unfold Addr.add; split <;> simp_all
        rw [this, hc j (by rw [← hsrc.1]; exact hj), ← hx]
        simp [List.getD, hj]
    obtain ⟨v', w', hrun, h2, h3, h4, h5⟩ := run_append_own_at (P := Try.prog) w base 32 ty 4 i0 _ 1 1 Try.underlying32 hi0 hz0 hz1 hz2 rfl (by omega) v n xs hown ad m d (row.map Value.bool) (by simp [hsrc.1]) hnews (one_bools row) (by simp [maxLen]; omega) (by omega) hbase
    rcases h2.2 with ⟨hn, _⟩ | ⟨g, cap, cur, rfl, h6⟩
    · exact absurd (h4.1 hn) (by rintro ⟨e1, e2⟩; rcases hv with hv | hv; exact hv e1; omega)
    · refine ⟨g, cap, w', hrun, h2, h3, ?_⟩
      rcases h5 with h5 | h5
      · exact .inl h5.symm
      · exact .inr (by simpa [Value.ownBlock] using h5)
theorem wpList_append_src (w : World) {ops : Array Oper} {rest : List Oper} {o : Oper} {a : Act} {Q : Exit → Act → World → Prop} (hgd : o.guard = none) (s x : Operand)
    (ho : o.op = .call { callee := .builtin .append, args := #[s, x], argTypes := #[32, 32] })
    (base : Nat) (v : Value) (n : Nat) (xs : List Value) (hs : a.eval s = v) (hown : w.ownsRow base 4 1 v n xs) (R : Option Addr) (m d : Nat) (row : List Bool) (hx : a.eval x = .slice R m d) (hsrc : BoolsAt w R m row)
    (hv : v ≠ .slice none 0 0 ∨ 0 < m) (h63 : n + m ≤ 1000000) (hbase : base ≤ w.heap.size)
    (h : ∀ g cap w', w'.ownsRow base 4 1 (.slice (some ⟨g, 0, none⟩) (n + m) cap) (n + m) (xs ++ row.map Value.bool) → w.grownBy w' v.ownBlock → (v.ownBlock = some g ∨ g = w.heap.size) → wpList Try.prog ops Q rest (a.put o.dst (.slice (some ⟨g, 0, none⟩) (n + m) cap)) w') :
    wpList Try.prog ops Q (o :: rest) a w := by
  obtain ⟨g, cap, w', hrun, h2, h3, h4⟩ := run_append_src w base o.type v n xs hown R m d row hsrc hv h63 hbase
  refine wpList_plain hgd fun K hK => ?_
  unfold Oper.wp execOp
  simp only [ho, resolve, invoke, builtin, Sem.run_bind, Sem.run_pure, Result.andThen_ok, List.map_toArray, List.map_cons, List.map_nil, hs, hx, hrun]
  exact hK _ _ (h g cap w' h2 h3 h4)
theorem ext_grown {w0 w w' : World} {row : Option Nat} (h : Ext w0 w) (hg : w.grownBy w' row) (hr : ∀ k, row = some k → w0.heap.size ≤ k) : Ext w0 w' := Below.grown h hg h.size hr
end Go.Proofs.Ytkkobdfhnkdfgaa
