/- A part of the proof. -/
import Derived.Test.YtjinpfnefeiooaaGreatRefPH
import Derived.Test.YtjinpfnefeiooaaGreatRefPP
namespace Go.Proofs.YtjinpfnefeiooaaGreat
open Go.RowKit

set_option maxRecDepth 100000 in
set_option maxHeartbeats 4000000 in
theorem rstarts_any (u : U) (A : Option Addr) (n c : Nat) (R : Option Addr) (m d : Nat) (row : List Bool) (w : World) (hs : StepsAt w A n u.steps) (hn : n ≤ maxLen) (hr : BoolsAt w R m row) (hm : m ≤ 1000) (hok : u.ok = true) :
  Calls Tryz.prog 65 #[u.val A n c, .slice R m d] w fun e w' => e = .returned (.int .i64 (u.starts row)) ∧ Ext w w' := by
 have HI : Hid (u.starts row = 0 + startsFrom (decide (0 < u.on)) (row.drop 0)) := by unfold Hid U.starts; rw [hok]; simp
 have HS := LH hs
 have HB := LH hr
 have HL := LH hr.1
 have HOK := LH hok
 clear hs hr hok
 go_enter Tryz.func65, Tryz.ntmps65
 go_wp2_with fail
 have hb1 : Ext w (w.alloc (.cells #[.int .i64 u.bus, .int .i64 u.mn, .slice A n c, .int .i64 u.up, .int .i64 u.down, .int .i64 u.start, .int .i64 u.idle, .int .i64 u.spin, .int .i64 u.on] 24)) := Ext.al Ext.rfl' _
 have hu := UBox.new w w.heap.size rfl u A n c 24
 generalize w.alloc (.cells #[.int .i64 u.bus, .int .i64 u.mn, .slice A n c, .int .i64 u.up, .int .i64 u.down, .int .i64 u.start, .int .i64 u.idle, .int .i64 u.spin, .int .i64 u.on] 24) = w1 at *
 have HU := LH hu
 have HE := LH hb1
 clear hu hb1
 go_loopw [5, 6, 7] (fun s p i wr => ∃ (k : Nat) (q : Int) (on : Bool), k ≤ m ∧ i = .int .i64 k ∧ s = .int .i64 q ∧ p = .bool on ∧ 0 ≤ q ∧ q ≤ k ∧ Hid (u.starts row = q + startsFrom on (row.drop k)) ∧ Hid (Ext w1 wr)) (fun _ _ i _ => m - (intOf i).toNat)
 case atStart => exact ⟨0, 0, decide (0 < u.on), Nat.zero_le _, rfl, rfl, rfl, by omega, by omega, HI, Ext.rfl'⟩
 case round =>
  obtain ⟨k, q, p, hk, rfl, rfl, rfl, hq0, hqk, HF, HEr⟩ := hrel
  by_cases hlt : k < m
  ·have hbv : decide ((k : Int) < (m : Int)) = true := by simp; omega
   have hbv2 : decide (k < m) = true := by simp; omega
   obtain ⟨b, off, rfl, hbl, hcell⟩ := HB.out.2 (by omega)
   have HC := LH (hcell k hlt)
   clear hcell
   have HN := LH (starts_at (p := p) (xs := row) (k := k) (by rw [HL.out]; exact hlt))
   generalize row.getD k false = on at *
   obtain ⟨d0, d1, d2, d3, d4, d5, d6, d7, d8⟩ := HU.out.ext HEr.out
   have hsb := World.block_lt_of_cell? _ _ d0
   go_wp2_with fail
   clear d0 d1 d2 d3 d4 d5 d6 d7 d8 hsb
   refine (rMay_any u A n c wr (HS.out.below (ET HE.out HEr.out)) hn).mono ?_
   rintro e w2 ⟨rfl, hE2⟩
   rw [HOK.out]
   have HE2 := LH (ET HEr.out hE2)
   clear hE2
   have c1 := Ext.cellOf (ET HE.out HE2.out) HC.out
   have hz0 : (0 : Int) ≤ (k : Int) := by omega
   have hzn : (k : Int) < (m : Int) := by omega
   cases on <;> cases p
   all_goals
    go_wp2_with fail
    go_roundw
    case rel => exact ⟨k + 1, _, _, by omega, by go_num, rfl, rfl, by omega, by omega, HF.out.trans (by rw [HN.out]; simp; try omega), HE2.out⟩
    case measure => simp [intOf]; omega
  ·have hbv : decide ((k : Int) < (m : Int)) = false := by simp; omega
   have hbv2 : decide (k < m) = false := by simp; omega
   have HV : Hid (q = u.starts row) := by
    unfold Hid
    rw [HF.out, List.drop_eq_nil_of_le (by rw [HL.out]; omega)]
    simp [startsFrom]
   clear HF
   go_wp2_with fail
   go_ret
   exact ⟨ret_int HV.out, ET HE.out HEr.out⟩
end Go.Proofs.YtjinpfnefeiooaaGreat
namespace Go.Proofs.YtjinpfnefeiooaaGreat
open Go.RowKit


def U.exts (u : U) : Nat → Int → List (List Bool)
 | 0, _ => [[]]
 | n + 1, s => (if u.next s false = 0 then [] else (u.exts n (u.next s false)).map (false :: ·)) ++ (if u.next s true = 0 then [] else (u.exts n (u.next s true)).map (true :: ·))
abbrev hdr (hrs : Nat) (p : Nat × Nat) : Value := .slice (some ⟨p.1, 0, none⟩) hrs p.2
def Lists (w : World) (B1 hrs : Nat) (vA : Value) (L : List (List Bool)) : Prop :=
 ∃ FC : List (Nat × Nat), w.ownsRow B1 31 1 vA L.length (FC.map (hdr hrs)) ∧ (FC.map (·.1)).Pairwise (· < ·) ∧ FC.length = L.length ∧
  ∀ (i : Nat) (p : Nat × Nat), FC[i]? = some p → ∃ xs : List Bool, L[i]? = some xs ∧ w.ownsRow B1 4 1 (hdr hrs p) hrs (xs.map Value.bool)
theorem info_bools : (Tryz.prog.info? 31).map (fun i => (i.zero, i.size, i.bytes)) = some (some (.slice none 0 0), 1, 24) := by kernel_rfl
theorem one_bools (l : List Bool) : ∀ u ∈ l.map Value.bool, u.oneCell' = true := by
 intro u hu
 obtain ⟨b, _, rfl⟩ := List.mem_map.1 hu
 rfl
def FreshB (B : Nat) (R : Option Addr) : Prop := ∀ ad, R = some ad → B ≤ ad.block
def RowsAt (w : World) (B : Nat) (A : Option Addr) (n : Nat) (L : List (List Bool)) : Prop :=
 L.length = n ∧ (0 < n → ∃ g off, A = some ⟨g, off, none⟩ ∧ g < w.heap.size ∧ ∀ i, i < n → ∃ R m d, w.cell? ⟨g, off + i, none⟩ = some (.slice R m d) ∧ BoolsAt w R m (L.getD i []) ∧ m ≤ maxLen ∧ FreshB B R)
theorem RowsAt.base {w : World} {B B' : Nat} {A : Option Addr} {n : Nat} {L : List (List Bool)} (h : RowsAt w B A n L) (hb : B' ≤ B) : RowsAt w B' A n L := by
 refine ⟨h.1, fun hn => ?_⟩
 obtain ⟨g, off, ha, hlt, hc⟩ := h.2 hn
 refine ⟨g, off, ha, hlt, fun i hi => ?_⟩
 obtain ⟨R, m, d, h1, h2, h3, h4⟩ := hc i hi
 exact ⟨R, m, d, h1, h2, h3, fun ad e => Nat.le_trans hb (h4 ad e)⟩
theorem own_cell {w : World} {base : Nat} {e : TypeId} {g n c : Nat} {xs : List Value} (h : w.ownsRow base e 1 (.slice (some ⟨g, 0, none⟩) n c) n xs) {i : Nat} (hi : i < n) : w.cell? ⟨g, i, none⟩ = xs[i]? := by
 rcases h.2 with ⟨hv, _⟩ | ⟨g', cap, cur, hv, _, hh, hc1, hc2, hc3, hc4⟩
 ·cases hv
 ·injection hv with e1 e2 e3
  injection e1 with e1
  injection e1 with e1
  subst e1
  rw [Blk.cell (t := e) hh i, ← hc4]
  simp only [Nat.mul_one] at *
  rw [List.getElem?_take, if_pos hi]
  simp
theorem own_bools {w : World} {base : Nat} {g n c : Nat} {xs : List Bool} (h : w.ownsRow base 4 1 (.slice (some ⟨g, 0, none⟩) n c) n (xs.map Value.bool)) : BoolsAt w (some ⟨g, 0, none⟩) n xs := by
 have hl : xs.length = n := by have := h.1; simpa using this
 refine ⟨hl, fun hn => ⟨g, 0, rfl, (own_lt h rfl).1, fun i hi => ?_⟩⟩
 rw [Nat.zero_add, own_cell h hi]
 simp [List.getD, hl, hi]
theorem Lists.rows {w : World} {B1 hrs : Nat} {vA : Value} {L : List (List Bool)} (h8 : hrs ≤ 8) (h : Lists w B1 hrs vA L) : ∃ A c, vA = .slice A L.length c ∧ RowsAt w B1 A L.length L := by
 obtain ⟨FC, h1, h2, h3, h4⟩ := h
 rcases h1.2 with ⟨rfl, hn⟩ | ⟨g, cap, cur, rfl, hb, hh, hc1, hc2, hc3, hc4⟩
 ·exact ⟨none, 0, by rw [hn], rfl, fun h => by omega⟩
 ·refine ⟨_, cap, rfl, rfl, fun hn => ⟨g, 0, rfl, (own_lt h1 rfl).1, fun i hi => ?_⟩⟩
  have hif : i < FC.length := by omega
  obtain ⟨xs, e, ho⟩ := h4 i FC[i] (List.getElem?_eq_getElem hif)
  refine ⟨some ⟨FC[i].1, 0, none⟩, hrs, FC[i].2, ?_, ?_, by simp [maxLen]; omega, fun ad e => by injection e with e; subst e; exact (own_lt ho rfl).2⟩
  ·rw [Nat.zero_add, own_cell h1 hi]
   simp [hif]
  ·have : L.getD i [] = xs := by simp [List.getD, e]
   rw [this]
   exact own_bools ho
set_option maxRecDepth 100000 in
theorem run_append_src (w : World) (base ty : Nat) (v : Value) (n : Nat) (xs : List Value) (hown : w.ownsRow base 4 1 v n xs) (R : Option Addr) (m d : Nat) (row : List Bool) (hsrc : BoolsAt w R m row)
  (hv : v ≠ .slice none 0 0 ∨ 0 < m) (h63 : n + m ≤ 1000000) (hbase : base ≤ w.heap.size) :
  ∃ g cap w', (Builtin.append_ #[31, 31] ty #[v, .slice R m d]).run Tryz.prog w = .ok (.slice (some ⟨g, 0, none⟩) (n + m) cap) w' ∧ w'.ownsRow base 4 1 (.slice (some ⟨g, 0, none⟩) (n + m) cap) (n + m) (xs ++ row.map Value.bool) ∧
   w.grownBy w' v.ownBlock ∧ (v.ownBlock = some g ∨ g = w.heap.size) := by
 obtain ⟨i0, hi0, hz0, hz1, hz2⟩ := info_parts info_bool
 rcases R with _ | ad
 ·have hm : m = 0 := by
   rcases Nat.eq_zero_or_pos m with h0 | h0
   ·exact h0
   ·obtain ⟨_, _, e, _⟩ := hsrc.2 h0; cases e
  subst hm
  have hrow : row = [] := List.eq_nil_of_length_eq_zero hsrc.1
  subst hrow
  rcases hown.2 with ⟨rfl, _⟩ | ⟨g, cap, cur, rfl, h1, h2, h3, h4⟩
  ·rcases hv with hv | hv
   ·exact absurd rfl hv
   ·omega
  ·refine ⟨g, cap, w, ?_, by simpa using hown, World.grownBy.refl w _, .inl rfl⟩
   simp [Builtin.append_, run_underlying Tryz.underlying31, sizeOf, typeInfo, hi0, Builtin.lenOf, Builtin.firstCells, h3, storeCells]
 ·have hnews : ∀ j x, (row.map Value.bool)[j]? = some x → w.cell? (ad.add j) = some x := by
   intro j x hx
   rcases Nat.eq_zero_or_pos m with h0 | h0
   ·have hrow : row = [] := List.eq_nil_of_length_eq_zero (by rw [hsrc.1, h0])
    subst hrow
    simp at hx
   ·obtain ⟨b, off, e, hlt, hc⟩ := hsrc.2 h0
    injection e with e
    subst e
    have hj : j < row.length := by
     rcases Nat.lt_or_ge j row.length with h | h
     ·exact h
     ·rw [List.getElem?_eq_none (by simpa using h)] at hx; cases hx
    have : (⟨b, off, none⟩ : Addr).add j = ⟨b, off + j, none⟩ := by unfold Addr.add; split <;> simp_all
    rw [this, hc j (by rw [← hsrc.1]; exact hj), ← hx]
    simp [List.getD, hj]
  obtain ⟨v', w', hrun, h2, h3, h4, h5⟩ := run_append_own_at (P := Tryz.prog) w base 31 ty 4 i0 _ 1 1 Tryz.underlying31 hi0 hz0 hz1 hz2 rfl (by omega) v n xs hown ad m d (row.map Value.bool) (by simp [hsrc.1]) hnews (one_bools row) (by simp [maxLen]; omega) (by omega) hbase
  rcases h2.2 with ⟨hn, _⟩ | ⟨g, cap, cur, rfl, h6⟩
  ·exact absurd (h4.1 hn) (by rintro ⟨e1, e2⟩; rcases hv with hv | hv; exact hv e1; omega)
  ·refine ⟨g, cap, w', hrun, h2, h3, ?_⟩
   rcases h5 with h5 | h5
   ·exact .inl h5.symm
   ·exact .inr (by simpa [Value.ownBlock] using h5)
theorem wpList_append_src (w : World) {ops : Array Oper} {rest : List Oper} {o : Oper} {a : Act} {Q : Exit → Act → World → Prop} (hgd : o.guard = none) (s x : Operand)
  (ho : o.op = .call { callee := .builtin .append, args := #[s, x], argTypes := #[31, 31] })
  (base : Nat) (v : Value) (n : Nat) (xs : List Value) (hs : a.eval s = v) (hown : w.ownsRow base 4 1 v n xs) (R : Option Addr) (m d : Nat) (row : List Bool) (hx : a.eval x = .slice R m d) (hsrc : BoolsAt w R m row)
  (hv : v ≠ .slice none 0 0 ∨ 0 < m) (h63 : n + m ≤ 1000000) (hbase : base ≤ w.heap.size)
  (h : ∀ g cap w', w'.ownsRow base 4 1 (.slice (some ⟨g, 0, none⟩) (n + m) cap) (n + m) (xs ++ row.map Value.bool) → w.grownBy w' v.ownBlock → (v.ownBlock = some g ∨ g = w.heap.size) → wpList Tryz.prog ops Q rest (a.put o.dst (.slice (some ⟨g, 0, none⟩) (n + m) cap)) w') :
  wpList Tryz.prog ops Q (o :: rest) a w := by
 obtain ⟨g, cap, w', hrun, h2, h3, h4⟩ := run_append_src w base o.type v n xs hown R m d row hsrc hv h63 hbase
 refine wpList_plain hgd fun K hK => ?_
 unfold Oper.wp execOp
 simp only [ho, resolve, invoke, builtin, Sem.run_bind, Sem.run_pure, Result.andThen_ok, List.map_toArray, List.map_cons, List.map_nil, hs, hx, hrun]
 exact hK _ _ (h g cap w' h2 h3 h4)
theorem ext_grown {w0 w w' : World} {row : Option Nat} (h : Ext w0 w) (hg : w.grownBy w' row) (hr : ∀ k, row = some k → w0.heap.size ≤ k) : Ext w0 w' := Below.grown h hg h.size hr
def U.okRun (u : U) (on : Bool) (len : Int) : Bool := if on then decide (u.up ≤ len) else decide (u.down ≤ len)
def U.runFeas (u : U) : Bool → Int → List Bool → Bool
 | _, _, [] => true
 | on, len, b :: r => if b = on then u.runFeas on (len + 1) r else u.okRun on len && u.runFeas b 1 r
def U.satS (u : U) (on : Bool) (len : Int) : Int := if on then min len u.up else -(min len u.down)
theorem run_feas {u : U} (g : u.Good) : ∀ (row : List Bool) (on : Bool) (len : Int), 1 ≤ len → u.feasFrom (u.satS on len) row = u.runFeas on len row
 | [], _, _, _ => rfl
 | b :: r, on, len, hl => by
  have ih1 := run_feas g r on (len + 1) (by omega)
  have ih2 := run_feas g r b 1 (by omega)
  obtain ⟨⟩ := g
  rw [U.feasFrom, U.runFeas]
  cases on <;> cases b
  ·have e : u.next (u.satS false len) false = u.satS false (len + 1) := by
    unfold U.next U.satS
    simp only [Bool.false_eq_true, if_false]
    rw [if_pos (by omega)]
    omega
   rw [e, if_neg (by unfold U.satS; simp only [Bool.false_eq_true, if_false]; omega), if_pos rfl, ih1]
  ·have e : u.next (u.satS false len) true = if u.down ≤ len then u.satS true 1 else 0 := by
    unfold U.next U.satS
    simp only [Bool.false_eq_true, if_false, if_true]
    rw [if_neg (by omega)]
    by_cases h : u.down ≤ len
    ·rw [if_pos (by omega), if_pos h]; omega
    ·rw [if_neg (by omega), if_neg h]
   rw [e, if_neg (show ¬ (true = false) by simp)]
   unfold U.okRun
   simp only [Bool.false_eq_true, if_false]
   by_cases h : u.down ≤ len
   ·rw [if_pos h, if_neg (by unfold U.satS; simp only [if_true]; omega), ih2, decide_eq_true h]; rfl
   ·rw [if_neg h, if_pos rfl, decide_eq_false h]; rfl
  ·have e : u.next (u.satS true len) false = if u.up ≤ len then u.satS false 1 else 0 := by
    unfold U.next U.satS
    simp only [Bool.false_eq_true, if_false, if_true]
    rw [if_neg (by omega)]
    by_cases h : u.up ≤ len
    ·rw [if_pos (by omega), if_pos h]; omega
    ·rw [if_neg (by omega), if_neg h]
   rw [e, if_neg (show ¬ (false = true) by simp)]
   unfold U.okRun
   simp only [if_true]
   by_cases h : u.up ≤ len
   ·rw [if_pos h, if_neg (by unfold U.satS; simp only [Bool.false_eq_true, if_false]; omega), ih2, decide_eq_true h]; rfl
   ·rw [if_neg h, if_pos rfl, decide_eq_false h]; rfl
  ·have e : u.next (u.satS true len) true = u.satS true (len + 1) := by
    unfold U.next U.satS
    simp only [if_true]
    rw [if_pos (by omega)]
    omega
   rw [e, if_neg (by unfold U.satS; simp only [if_true]; omega), if_pos rfl, ih1]
theorem run_at (u : U) {on : Bool} {len : Int} {xs : List Bool} {k : Nat} (hk : k < xs.length) : u.runFeas on len (xs.drop k) = if xs.getD k false = on then u.runFeas on (len + 1) (xs.drop (k + 1)) else u.okRun on len && u.runFeas (xs.getD k false) 1 (xs.drop (k + 1)) := by
 rw [List.drop_eq_getElem_cons hk]
 have hg : xs.getD k false = xs[k] := by simp [List.getD, hk]
 rw [hg]
 rfl
theorem feas_count {u : U} (h : u.ok = true) (row : List Bool) : u.feas row = u.runFeas (decide (0 < u.on)) (if 0 < u.on then u.on else -u.on) row := by
 have g := U.good h
 have hl : 1 ≤ (if 0 < u.on then u.on else -u.on) := by obtain ⟨⟩ := g; split <;> omega
 rw [← run_feas g _ _ _ hl]
 unfold U.feas
 rw [h]
 have e : u.init = u.satS (decide (0 < u.on)) (if 0 < u.on then u.on else -u.on) := by
  obtain ⟨⟩ := g
  unfold U.init U.satS
  by_cases hp : 0 < u.on
  ·rw [if_pos hp, decide_eq_true hp]
   simp only [if_true]
   omega
  ·rw [if_neg hp, decide_eq_false hp]
   simp only [Bool.false_eq_true, if_false]
   omega
 rw [e]
 rfl
set_option maxHeartbeats 4000000 in
theorem rFeasible_any (u : U) (A : Option Addr) (n c : Nat) (R : Option Addr) (m d : Nat) (row : List Bool) (w : World) (hs : StepsAt w A n u.steps) (hn : n ≤ maxLen) (hr : BoolsAt w R m row) (hm : m ≤ 1000) (hok : u.ok = true) :
  Calls Tryz.prog 38 #[u.val A n c, .slice R m d] w fun e w' => e = .returned (.bool (u.feas row)) ∧ Ext w w' := by
 have HFC := LH (feas_count hok row)
 have G := U.good hok
 obtain ⟨g1, g2, g3, g4, _, _, _, _, g5, g6, g7⟩ := G
 go_enter Tryz.func38, Tryz.ntmps38
 go_wp2_with fail
 refine (rMay_any u A n c _ (hs.below ((Below.refl _ _).alloc (Nat.le_refl _) _)) hn).mono ?_
 rintro e w1 ⟨rfl, hb1⟩
 rw [hok]
 clear hok
 have hE : Ext w w1 := Ext.new hb1
 have HU := LH ((ubox w u A n c).ext hb1)
 have HL := LH hr.1
 have HR := LH (hr.below hE).2
 have d8 : w1.cell? ⟨w.heap.size, 8, none⟩ = some (.int .i64 u.on) := HU.out.2.2.2.2.2.2.2.2
 have d3 : w1.cell? ⟨w.heap.size, 3, none⟩ = some (.int .i64 u.up) := HU.out.2.2.2.1
 have d4 : w1.cell? ⟨w.heap.size, 4, none⟩ = some (.int .i64 u.down) := HU.out.2.2.2.2.1
 obtain ⟨on0, hon0⟩ : ∃ b, decide (0 < u.on) = b := ⟨_, rfl⟩
 obtain ⟨len0, hlen0⟩ : ∃ z : Int, (if 0 < u.on then u.on else -u.on) = z := ⟨_, rfl⟩
 have HFC0 : Hid (u.feas row = u.runFeas on0 len0 (row.drop 0)) := by have := HFC.out; rw [hon0, hlen0] at this; exact this
 have hl1 : 1 ≤ len0 := by rw [← hlen0]; split <;> omega
 have hl6 : len0 ≤ 6 := by rw [← hlen0]; split <;> omega
 by_cases hp : 0 < u.on
 ·have hpb : decide (0 < u.on) = true := decide_eq_true hp
  have e1 : on0 = true := by rw [← hon0, hpb]
  have e2 : len0 = u.on := by rw [← hlen0, if_pos hp]
  subst e1
  subst e2
  clear hon0 hlen0
  go_wp2_with fail
  go_quiet (fail)
  go_wp2_with fail
  go_loopw [5, 6, 7] (fun o l i wr => ∃ (k : Nat) (on : Bool) (len : Int), k ≤ m ∧ i = .int .i64 k ∧ o = .bool on ∧ l = .int .i64 len ∧ 1 ≤ len ∧ len ≤ 6 + k ∧ Hid (u.feas row = u.runFeas on len (row.drop k)) ∧ Ext w1 wr) (fun _ _ i _ => m - (intOf i).toNat)
  case atStart => exact ⟨0, _, _, by omega, rfl, rfl, rfl, hl1, by omega, HFC0, below_drewN Ext.rfl' _⟩
  case round =>
   obtain ⟨k, on, len, hk, rfl, rfl, rfl, h1l, hl6k, HI, hbw⟩ := hrel
   by_cases hlt : k < m
   ·obtain ⟨b, off, rfl, hbl, hc⟩ := HR.out (by omega)
    have c1 := Ext.cellOf hbw (hc k hlt)
    have e3 := Ext.cellOf hbw d3
    have e4 := Ext.cellOf hbw d4
    clear hc
    have hbv : decide ((k : Int) < (m : Int)) = true := by simp; omega
    have hsb : w.heap.size < wr.heap.size := World.block_lt_of_cell? _ _ e3
    have HN := LH (run_at u (on := on) (len := len) (xs := row) (k := k) (by rw [HL.out]; exact hlt))
    generalize row.getD k false = x at *
    cases on <;> cases x
    ·go_wp2_with fail
     go_roundw
     case rel => exact ⟨k + 1, false, len + 1, by omega, by go_num, rfl, by go_num, by omega, by omega, by have := HI.out; rw [HN.out, if_pos rfl] at this; exact this, hbw⟩
     case measure => simp [intOf]; omega
    ·by_cases hle : len < u.down
     ·have hlb : decide (len < u.down) = true := decide_eq_true hle
      go_wp2_with fail
      go_ret
      refine ⟨ret_bool ?_, ET hE hbw⟩
      have := HI.out
      rw [HN.out, if_neg (by simp)] at this
      rw [this]
      simp only [U.okRun, Bool.false_eq_true, if_false]
      rw [decide_eq_false (by omega)]
      rfl
     ·have hlb : decide (len < u.down) = false := decide_eq_false hle
      go_wp2_with fail
      go_roundw
      case rel =>
       refine ⟨k + 1, true, 1, by omega, by go_num, rfl, rfl, by omega, by omega, ?_, hbw⟩
       have := HI.out
       rw [HN.out, if_neg (by simp)] at this
       have hr : u.okRun false len = true := by simp [U.okRun]; omega
       rw [hr] at this
       exact this
      case measure => simp [intOf]; omega
    ·by_cases hle : len < u.up
     ·have hlb : decide (len < u.up) = true := decide_eq_true hle
      go_wp2_with fail
      go_ret
      refine ⟨ret_bool ?_, ET hE hbw⟩
      have := HI.out
      rw [HN.out, if_neg (by simp)] at this
      rw [this]
      simp only [U.okRun, if_true]
      rw [decide_eq_false (by omega)]
      rfl
     ·have hlb : decide (len < u.up) = false := decide_eq_false hle
      go_wp2_with fail
      go_roundw
      case rel =>
       refine ⟨k + 1, false, 1, by omega, by go_num, rfl, rfl, by omega, by omega, ?_, hbw⟩
       have := HI.out
       rw [HN.out, if_neg (by simp)] at this
       have hr : u.okRun true len = true := by simp [U.okRun]; omega
       rw [hr] at this
       exact this
      case measure => simp [intOf]; omega
    ·go_wp2_with fail
     go_roundw
     case rel => exact ⟨k + 1, true, len + 1, by omega, by go_num, rfl, by go_num, by omega, by omega, by have := HI.out; rw [HN.out, if_pos rfl] at this; exact this, hbw⟩
     case measure => simp [intOf]; omega
   ·have hbv : decide ((k : Int) < (m : Int)) = false := by simp; omega
    go_wp2_with fail
    go_ret
    refine ⟨ret_bool ?_, ET hE hbw⟩
    have := HI.out
    rw [List.drop_eq_nil_of_le (by rw [HL.out]; omega)] at this
    rw [this]
    rfl
 ·have hpb : decide (0 < u.on) = false := decide_eq_false hp
  have e1 : on0 = false := by rw [← hon0, hpb]
  have e2 : len0 = -u.on := by rw [← hlen0, if_neg hp]
  subst e1
  subst e2
  clear hon0 hlen0
  go_wp2_with fail
  go_quiet (fail)
  go_wp2_with fail
  go_loopw [5, 6, 7] (fun o l i wr => ∃ (k : Nat) (on : Bool) (len : Int), k ≤ m ∧ i = .int .i64 k ∧ o = .bool on ∧ l = .int .i64 len ∧ 1 ≤ len ∧ len ≤ 6 + k ∧ Hid (u.feas row = u.runFeas on len (row.drop k)) ∧ Ext w1 wr) (fun _ _ i _ => m - (intOf i).toNat)
  case atStart => exact ⟨0, _, _, by omega, rfl, rfl, rfl, hl1, by omega, HFC0, below_drewN Ext.rfl' _⟩
  case round =>
   obtain ⟨k, on, len, hk, rfl, rfl, rfl, h1l, hl6k, HI, hbw⟩ := hrel
   by_cases hlt : k < m
   ·obtain ⟨b, off, rfl, hbl, hc⟩ := HR.out (by omega)
    have c1 := Ext.cellOf hbw (hc k hlt)
    have e3 := Ext.cellOf hbw d3
    have e4 := Ext.cellOf hbw d4
    clear hc
    have hbv : decide ((k : Int) < (m : Int)) = true := by simp; omega
    have hsb : w.heap.size < wr.heap.size := World.block_lt_of_cell? _ _ e3
    have HN := LH (run_at u (on := on) (len := len) (xs := row) (k := k) (by rw [HL.out]; exact hlt))
    generalize row.getD k false = x at *
    cases on <;> cases x
    ·go_wp2_with fail
     go_roundw
     case rel => exact ⟨k + 1, false, len + 1, by omega, by go_num, rfl, by go_num, by omega, by omega, by have := HI.out; rw [HN.out, if_pos rfl] at this; exact this, hbw⟩
     case measure => simp [intOf]; omega
    ·by_cases hle : len < u.down
     ·have hlb : decide (len < u.down) = true := decide_eq_true hle
      go_wp2_with fail
      go_ret
      refine ⟨ret_bool ?_, ET hE hbw⟩
      have := HI.out
      rw [HN.out, if_neg (by simp)] at this
      rw [this]
      simp only [U.okRun, Bool.false_eq_true, if_false]
      rw [decide_eq_false (by omega)]
      rfl
     ·have hlb : decide (len < u.down) = false := decide_eq_false hle
      go_wp2_with fail
      go_roundw
      case rel =>
       refine ⟨k + 1, true, 1, by omega, by go_num, rfl, rfl, by omega, by omega, ?_, hbw⟩
       have := HI.out
       rw [HN.out, if_neg (by simp)] at this
       have hr : u.okRun false len = true := by simp [U.okRun]; omega
       rw [hr] at this
       exact this
      case measure => simp [intOf]; omega
    ·by_cases hle : len < u.up
     ·have hlb : decide (len < u.up) = true := decide_eq_true hle
      go_wp2_with fail
      go_ret
      refine ⟨ret_bool ?_, ET hE hbw⟩
      have := HI.out
      rw [HN.out, if_neg (by simp)] at this
      rw [this]
      simp only [U.okRun, if_true]
      rw [decide_eq_false (by omega)]
      rfl
     ·have hlb : decide (len < u.up) = false := decide_eq_false hle
      go_wp2_with fail
      go_roundw
      case rel =>
       refine ⟨k + 1, false, 1, by omega, by go_num, rfl, rfl, by omega, by omega, ?_, hbw⟩
       have := HI.out
       rw [HN.out, if_neg (by simp)] at this
       have hr : u.okRun true len = true := by simp [U.okRun]; omega
       rw [hr] at this
       exact this
      case measure => simp [intOf]; omega
    ·go_wp2_with fail
     go_roundw
     case rel => exact ⟨k + 1, true, len + 1, by omega, by go_num, rfl, by go_num, by omega, by omega, by have := HI.out; rw [HN.out, if_pos rfl] at this; exact this, hbw⟩
     case measure => simp [intOf]; omega
   ·have hbv : decide ((k : Int) < (m : Int)) = false := by simp; omega
    go_wp2_with fail
    go_ret
    refine ⟨ret_bool ?_, ET hE hbw⟩
    have := HI.out
    rw [List.drop_eq_nil_of_le (by rw [HL.out]; omega)] at this
    rw [this]
    rfl
def bitsL : Nat → List (List Bool)
 | 0 => [[]]
 | n + 1 => (bitsL n).map (false :: ·) ++ (bitsL n).map (true :: ·)
theorem bitsL_len : ∀ n, (bitsL n).length = 2 ^ n
 | 0 => rfl
 | n + 1 => by simp [bitsL, bitsL_len n, Nat.pow_succ]; omega
theorem bitsL_mem : ∀ n, ∀ xs ∈ bitsL n, xs.length = n
 | 0 => by simp [bitsL]
 | n + 1 => by
  intro xs hx
  simp only [bitsL, List.mem_append, List.mem_map] at hx
  rcases hx with ⟨y, hy, rfl⟩ | ⟨y, hy, rfl⟩ <;> simp [bitsL_mem n y hy]
def firstL (n k : Nat) : List (List Bool) := ([false, true].take k).flatMap fun b => (bitsL n).map (b :: ·)
theorem firstL_next (n : Nat) {k : Nat} (hk : k < 2) : firstL n (k + 1) = firstL n k ++ (bitsL n).map (decide (k = 1) :: ·) := by
 have h : k = 0 ∨ k = 1 := by omega
 rcases h with rfl | rfl <;> simp [firstL]
theorem firstL_all (n : Nat) : firstL n 2 = bitsL (n + 1) := by simp [firstL, bitsL]
theorem firstL_len (n : Nat) {k : Nat} (hk : k ≤ 2) : (firstL n k).length ≤ 2 * 2 ^ n := by
 have h : k = 0 ∨ k = 1 ∨ k = 2 := by omega
 rcases h with rfl | rfl | rfl <;> simp [firstL, bitsL_len] <;> omega
theorem wpList_append_at {P : Program} (w : World) {ops : Array Oper} {rest : List Oper} {o : Oper} {a : Act} {Q : Exit → Act → World → Prop} (hgd : o.guard = none) (s x : Operand) (t : TypeId)
  (ho : o.op = .call { callee := .builtin .append, args := #[s, x], argTypes := #[t, t] })
  (base : Nat) (e : TypeId) (i : TypeInfo) (z : Value) (size bytes : Nat) (ht : P.underlying t = some (.slice e)) (hi : P.info? e = some i) (hz : i.zero = some z)
  (hsize : i.size = size) (hby : i.bytes = bytes) (hzs : z.cells.size = size) (hsz : 0 < size)
  (v : Value) (n : Nat) (xs : List Value) (hs : a.eval s = v) (hown : w.ownsRow base e size v n xs)
  (ad : Addr) (m c : Nat) (news : List Value) (hx : a.eval x = .slice (some ad) m c) (hl : news.length = m * size) (hnews : ∀ j u, news[j]? = some u → w.cell? (ad.add j) = some u) (h1 : ∀ u ∈ news, u.oneCell' = true)
  (hv : v ≠ .slice none 0 0 ∨ 0 < m) (h63 : n + m ≤ maxLen) (hbytes : (n + m) * bytes ≤ 140737488355328) (hbase : base ≤ w.heap.size)
  (h : ∀ g cap w', w'.ownsRow base e size (.slice (some ⟨g, 0, none⟩) (n + m) cap) (n + m) (xs ++ news) → w.grownBy w' v.ownBlock → (v.ownBlock = some g ∨ g = w.heap.size) → wpList P ops Q rest (a.put o.dst (.slice (some ⟨g, 0, none⟩) (n + m) cap)) w') :
  wpList P ops Q (o :: rest) a w :=
 wpList_plain hgd fun _ hK => wp_append_at w s x t ho base e i z size bytes ht hi hz hsize hby hzs hsz v n xs hs hown ad m c news hx hl hnews h1 hv h63 hbytes hbase fun g cap w' h2 h3 h4 => hK _ _ (h g cap w' h2 h3 h4)
theorem lists_snoc {w w1 w2 : World} {B hrs : Nat} {v : Value} {L : List (List Bool)} {FC : List (Nat × Nat)} {xs : List Bool} {g1 cap1 g2 cap2 : Nat} {o2 : Obj}
  (ho : w.ownsRow B 31 1 v L.length (FC.map (hdr hrs))) (hpw : (FC.map (·.1)).Pairwise (· < ·)) (hfl : FC.length = L.length)
  (hel : ∀ (i : Nat) (p : Nat × Nat), FC[i]? = some p → ∃ ys : List Bool, L[i]? = some ys ∧ w.ownsRow B 4 1 (hdr hrs p) hrs (ys.map Value.bool))
  (k1 : ∀ k, k < w.heap.size → w1.heap[k]? = w.heap[k]?) (hz1 : w.heap.size ≤ w1.heap.size) (ho1 : w1.ownsRow B 4 1 (hdr hrs (g1, cap1)) hrs (xs.map Value.bool)) (hg1w : w.heap.size ≤ g1)
  (hg2 : (w1.alloc o2).grownBy w2 v.ownBlock) (ho2 : w2.ownsRow B 31 1 (.slice (some ⟨g2, 0, none⟩) (L.length + 1) cap2) (L.length + 1) (FC.map (hdr hrs) ++ [hdr hrs (g1, cap1)])) :
  Lists w2 B hrs (.slice (some ⟨g2, 0, none⟩) (L.length + 1) cap2) (L ++ [xs]) := by
 have k2 : ∀ k, k < w1.heap.size → v.ownBlock ≠ some k → w2.heap[k]? = w1.heap[k]? := fun k hk hne =>
  (hg2.block k (by simp; omega) (Ne.symm hne)).trans (Below.heap_alloc w1 o2 k hk)
 have hvb : ∀ g, v.ownBlock = some g → g < w.heap.size := fun g hg => (own_lt ho hg).1
 have hg1l : g1 < w1.heap.size := (own_lt ho1 rfl).1
 have kw : ∀ k, k < w.heap.size → v.ownBlock ≠ some k → w2.heap[k]? = w.heap[k]? := fun k hk hne => (k2 k (by omega) hne).trans (k1 k hk)
 refine ⟨FC ++ [(g1, cap1)], by simpa using ho2, ?_, by simp [hfl], ?_⟩
 ·rw [List.map_append, List.pairwise_append]
  refine ⟨hpw, by simp, ?_⟩
  intro a ha b hb
  obtain ⟨p, hp, rfl⟩ := List.mem_map.1 ha
  obtain ⟨i, hi, hip⟩ := List.getElem_of_mem hp
  obtain ⟨ys, _, hx⟩ := hel i p (by rw [List.getElem?_eq_getElem hi, hip])
  have := (own_lt hx (g := p.1) rfl).1
  simp at hb
  subst hb
  omega
 ·intro i p hp
  rcases Nat.lt_or_ge i FC.length with hi | hi
  ·rw [List.getElem?_append_left hi] at hp
   obtain ⟨ys, e, hx⟩ := hel i p hp
   refine ⟨ys, by rw [List.getElem?_append_left (by omega)]; exact e, own_keep hx fun g hg => ?_⟩
   exact kw g (own_lt hx hg).1 (own_ne_own hx ho (by decide) hg)
  ·rw [List.getElem?_append_right hi] at hp
   have hi0 : i = FC.length := by
    rcases Nat.eq_or_lt_of_le hi with e | e
    ·exact e.symm
    ·rw [List.getElem?_eq_none (by simp; omega)] at hp; cases hp
   subst hi0
   simp at hp
   subst hp
   refine ⟨xs, by rw [List.getElem?_append_right (by omega)]; simp [hfl], own_keep ho1 fun g hg => ?_⟩
   have hgg : g1 = g := by simpa [Value.ownBlock] using hg
   subst hgg
   refine k2 g1 hg1l fun e => ?_
   have := hvb g1 e
   omega
theorem lit_own (w : World) (B : Nat) (hB : B ≤ w.heap.size) (b : Bool) : (w.alloc (.cells #[.bool b] 4)).ownsRow B 4 1 (.slice (some ⟨w.heap.size, 0, none⟩) 1 1) 1 [.bool b] :=
 ⟨by simp, .inr ⟨w.heap.size, 1, #[.bool b], rfl, hB, heap_alloc_new w _, by simp, by simp [maxLen], rfl, rfl⟩⟩
set_option maxHeartbeats 4000000 in
theorem all_any (n : Nat) : ∀ (z : Int) (w : World), z = n → n ≤ 8 →
    Calls Tryz.prog 67 #[.int .i64 z] w fun e w' => ∃ A c, e = .returned (.slice A (2 ^ n) c) ∧ RowsAt w' w.heap.size A (2 ^ n) (bitsL n) ∧ Ext w w' := by
  obtain ⟨i1, hi1, hy0, hy1, hy2⟩ := info_parts info_bools
  induction n with
  | zero =>
    intro z w hz _
    subst hz
    go_enter Tryz.func67, Tryz.ntmps67
    go_wp2_with fail
    go_ret
    refine ⟨_, _, rfl, ⟨rfl, fun _ => ⟨w.heap.size, 0, rfl, by simp, fun i hi => ⟨none, 0, 0, ?_, ?_, by omega, fun ad e => by cases e⟩⟩⟩, Ext.new1 _ _⟩
    · obtain rfl : i = 0 := by omega
      exact (Blk.new w 31 #[.slice none 0 0]).cell 0
    · obtain rfl : i = 0 := by omega
      exact ⟨rfl, fun h => by omega⟩
  | succ n ih =>
    intro z w hz h8
    have hz0 : (z == 0) = false := by simp; omega
    have hz1 : z - 1 = (n : Int) := by omega
    have hzl : 1 ≤ z := by omega
    have hzh : z ≤ 9 := by omega
    have HIH := LH ih
    have HZ := LH hz1
    have hp2 : 2 ^ n ≤ 256 := by
      have : 2 ^ n ≤ 2 ^ 8 := Nat.pow_le_pow_right (by omega) (by omega)
      omega
    clear hz ih hz1
    go_enter Tryz.func67, Tryz.ntmps67
    go_wp2_with fail
    refine (HIH.out _ _ HZ.out (by omega)).mono ?_
    rintro e w1 ⟨A, c, rfl, hR, hb1⟩
    have HR := LH hR
    clear hR
    obtain ⟨N, hN⟩ : ∃ N, 2 ^ n = N := ⟨_, rfl⟩
    have HBL : Hid ((bitsL n).length = N) := by unfold Hid; rw [bitsL_len, hN]
    rw [hN] at HR hp2 ⊢
    have HN := LH hN
    clear hN
    go_wp2_with fail
    go_loopw [3, 5] (fun v i wr => ∃ k : Nat, k ≤ 2 ∧ i = .int .i64 k ∧ Hid (Lists wr w1.heap.size (n + 1) v (firstL n k)) ∧ Ext w1 wr) (fun _ i _ => 2 - (intOf i).toNat)
    case atStart => exact ⟨0, by omega, rfl, ⟨[], ⟨by simp [firstL], .inl ⟨rfl, by simp [firstL]⟩⟩, by simp, by simp [firstL], by simp⟩, Ext.rfl'⟩
    case round =>
      obtain ⟨k, hk, rfl, HL, hbw⟩ := hrel
      by_cases hk2 : k < 2
      · have hbv : decide ((k : Int) < 2) = true := by simp; omega
        have hbe : ((k : Int) == 1) = decide (k = 1) := by
          have h : k = 0 ∨ k = 1 := by omega
          rcases h with rfl | rfl <;> rfl
        have HFN := LH (firstL_next n hk2)
        have HFL := LH (firstL_len n hk)
        generalize decide (k = 1) = b at *
        go_wp2_with fail
        go_loopw [3, 6] (fun v i wx => ∃ j : Nat, j ≤ N ∧ i = .int .i64 j ∧ Hid (Lists wx w1.heap.size (n + 1) v (firstL n k ++ ((bitsL n).take j).map (b :: ·))) ∧ Ext w1 wx) (fun _ i _ => N - (intOf i).toNat)
        case atStart => exact ⟨0, by omega, rfl, by simpa using HL, hbw⟩
        case round =>
          obtain ⟨j, hj, rfl, HLJ, hbx⟩ := hrel
          by_cases hj2 : j < N
          · have hbv2 : decide ((j : Int) < (N : Int)) = true := by simp; omega
            obtain ⟨g, off, rfl, hgl, hcell⟩ := HR.out.2 (by omega)
            obtain ⟨R, m, d, c1, hB, hml⟩ := hcell j hj2
            clear hcell
            have c2 := Ext.cellOf hbx c1
            have hgl2 : g < wr.heap.size := Nat.lt_of_lt_of_le hgl hbx.size
            have HBx := LH ((hB.below hbx).below (Ext.new1 wr (.cells #[.bool b] 4)))
            have hmem : (bitsL n).getD j [] ∈ bitsL n := by
              have : j < (bitsL n).length := by rw [HBL.out]; exact hj2
              simp [List.getD, this]
            have hmn : m = n := by rw [← hB.1]; exact bitsL_mem n _ hmem
            subst hmn
            have HTS : Hid (firstL m k ++ ((bitsL m).take (j + 1)).map (b :: ·) = (firstL m k ++ ((bitsL m).take j).map (b :: ·)) ++ [b :: (bitsL m).getD j []]) := by
              unfold Hid
              rw [take_snoc (bitsL m) [] (by rw [HBL.out]; exact hj2)]
              simp
            have hLl : (firstL m k ++ ((bitsL m).take j).map (b :: ·)).length ≤ 2000 := by
              have h1 := HFL.out
              have h2 := HN.out
              simp only [List.length_append, List.length_map, List.length_take]
              omega
            obtain ⟨FC, ho, hpw, hfl, hel⟩ := HLJ.out
            have HW0 := LH (lit_own wr w1.heap.size hbx.size b)
            have HO := LH ho
            clear c1 hB hmem ho
            generalize firstL m k ++ ((bitsL m).take j).map (b :: ·) = L at *
            generalize (bitsL m).getD j [] = xs at *
            go_wp2_with (first
              | (at_builtin
                 refine wpList_append_src _ rfl (.tmp 26) (.tmp 30) rfl w1.heap.size (.slice (some ⟨wr.heap.size, 0, none⟩) 1 1) 1 [.bool b] rfl HW0.out R m d xs rfl HBx.out (.inl (by simp)) (by omega) (by simp; have := hbx.size; omega) ?_
                 intro g1 cap1 w2 hown1 hgrow1 hat1
                 rw [Nat.add_comm 1 m]
                 rw [Nat.add_comm 1 m] at hown1
                 have HX1 := LH hown1
                 have HG1 := LH hgrow1
                 have HA1 := LH hat1
                 have hk1 : ∀ k, k < wr.heap.size → w2.heap[k]? = wr.heap[k]? := fun k hk => (hgrow1.block k (by simp; omega) (by simp [Value.ownBlock]; omega)).trans (Below.heap_alloc wr _ k hk)
                 have HK1 := LH hk1
                 have HZ1 : Hid (wr.heap.size + 1 ≤ w2.heap.size) := by have := hgrow1.size; simpa [Hid] using this
                 have HO1 := LH (own_keep (w' := w2.alloc (.cells #[hdr (m + 1) (g1, cap1)] 31)) HO.out fun g hg => (Below.heap_alloc w2 _ g (by have := (own_lt HO.out hg).1; have := HZ1.out; omega)).trans (hk1 g (own_lt HO.out hg).1))
                 clear hown1 hgrow1 hat1 hk1)
              | (at_builtin
                 refine wpList_append_at _ rfl (.tmp 23) (.tmp 32) 67 rfl w1.heap.size 31 i1 _ 1 24 Tryz.underlying67 hi1 hy0 hy1 hy2 rfl (by omega) _ L.length (FC.map (hdr (m + 1))) rfl HO1.out
                   ⟨w2.heap.size, 0, none⟩ 1 1 [hdr (m + 1) (g1, cap1)] rfl rfl (World.news_of_block (cs := #[hdr (m + 1) (g1, cap1)]) (t := 31) (fr := (0, 0)) (heap_alloc_new w2 _)) (by simp [Value.oneCell']) (.inr (by omega)) (by simp [maxLen]; omega) (by omega) (by simp; have := hbx.size; have := HZ1.out; omega) ?_
                 intro g2 cap2 w3 hown2 hgrow2 hat2
                 have HX2 := LH hown2
                 have HG2 := LH hgrow2
                 clear hown2 hgrow2 hat2))
            have HNEW : Hid (Lists w3 w1.heap.size (m + 1) (.slice (some ⟨g2, 0, none⟩) (L.length + 1) cap2) (L ++ [b :: xs])) :=
              lists_snoc HO.out hpw hfl hel HK1.out (by have := HZ1.out; omega) (by simpa using HX1.out) (by have := HA1.out; simp [Value.ownBlock] at this; omega) HG2.out HX2.out
            have HEW : Hid (Ext w1 w3) := ext_grown (ET (ext_grown (ET hbx (Ext.new1 wr (.cells #[.bool b] 4))) HG1.out (by intro k2 hk2; simp [Value.ownBlock] at hk2; have := hbx.size; omega)) (Ext.new1 w2 (.cells #[hdr (m + 1) (g1, cap1)] 31))) HG2.out (by intro k2 hk2; exact (own_lt HO.out hk2).2)
            go_roundw
            case rel => exact ⟨j + 1, by omega, by go_num, by rw [HTS.out]; exact HNEW, HEW.out⟩
            case measure => simp [intOf]; omega
          · have hbv2 : decide ((j : Int) < (N : Int)) = false := by simp; omega
            have HDONE : Hid (Lists wr w1.heap.size (n + 1) u3 (firstL n (k + 1))) := by
              have h1 := HLJ.out
              rw [List.take_of_length_le (by rw [HBL.out]; omega), ← HFN.out] at h1
              exact h1
            go_wp2_with fail
            go_roundw
            case rel => exact ⟨k + 1, by omega, by go_num, HDONE, hbx⟩
            case measure => simp [intOf]; omega
      · have hbv : decide ((k : Int) < 2) = false := by simp; omega
        obtain rfl : k = 2 := by omega
        have hrows := HL.out
        rw [firstL_all] at hrows
        obtain ⟨A2, c2, hv2, hR2⟩ := hrows.rows (by omega)
        subst hv2
        rw [bitsL_len] at hR2
        have HR2 := LH hR2
        clear hR2 hrows HL
        rw [bitsL_len]
        go_wp2_with fail
        go_ret
        exact ⟨A2, c2, rfl, HR2.out.base hb1.size, ET hb1 hbw⟩
theorem filter_map_cons (u : U) (s : Int) (b : Bool) : ∀ L : List (List Bool), (L.map (b :: ·)).filter (u.feasFrom s) = if u.next s b = 0 then [] else (L.filter (u.feasFrom (u.next s b))).map (b :: ·)
 | [] => by simp
 | x :: L => by
  have ih := filter_map_cons u s b L
  rw [List.map_cons, List.filter_cons, ih]
  have e : u.feasFrom s (b :: x) = if u.next s b = 0 then false else u.feasFrom (u.next s b) x := rfl
  rw [e]
  by_cases h : u.next s b = 0
  ·simp [h]
  ·simp only [if_neg h, List.filter_cons]
   split <;> simp_all
theorem exts_filter (u : U) : ∀ (n : Nat) (s : Int), u.exts n s = (bitsL n).filter (u.feasFrom s)
 | 0, _ => rfl
 | n + 1, s => by
  rw [U.exts, bitsL, List.filter_append, filter_map_cons, filter_map_cons, exts_filter u n, exts_filter u n]
def KeptRows (w : World) (B : Nat) (vals : List Value) (Ls : List (List Bool)) : Prop :=
 vals.length = Ls.length ∧ ∀ j, j < Ls.length → ∃ R m d, vals[j]? = some (.slice R m d) ∧ BoolsAt w R m (Ls.getD j []) ∧ m ≤ maxLen ∧ FreshB B R
theorem KeptRows.snoc {w : World} {B : Nat} {vals : List Value} {Ls : List (List Bool)} (h : KeptRows w B vals Ls) {R : Option Addr} {m d : Nat} {xs : List Bool} (hB : BoolsAt w R m xs) (hm : m ≤ maxLen ∧ FreshB B R) : KeptRows w B (vals ++ [.slice R m d]) (Ls ++ [xs]) := by
 refine ⟨by simp [h.1], fun j hj => ?_⟩
 rcases Nat.lt_or_ge j Ls.length with hl | hl
 ·obtain ⟨R', m', d', h1, h2, h3⟩ := h.2 j hl
  refine ⟨R', m', d', by rw [List.getElem?_append_left (by rw [h.1]; exact hl)]; exact h1, ?_, h3⟩
  have : (Ls ++ [xs]).getD j [] = Ls.getD j [] := by simp [List.getD, List.getElem?_append_left hl]
  rw [this]; exact h2
 ·have hjl : j = Ls.length := by simp at hj; omega
  subst hjl
  refine ⟨R, m, d, by rw [List.getElem?_append_right (by rw [h.1]; exact Nat.le_refl _), h.1]; simp, ?_, hm⟩
  have : (Ls ++ [xs]).getD Ls.length [] = xs := by simp [List.getD]
  rw [this]; exact hB
theorem KeptRows.rows {w w' : World} {B : Nat} {base : Nat} {v : Value} {vals : List Value} {Ls : List (List Bool)} (h : KeptRows w B vals Ls) (hb : Ext w w') (ho : w'.ownsRow base 31 1 v vals.length vals) :
  ∃ A c, v = .slice A Ls.length c ∧ RowsAt w' B A Ls.length Ls := by
 rcases ho.2 with ⟨rfl, hn⟩ | ⟨g, cap, cur, rfl, hb', hh, hc1, hc2, hc3, hc4⟩
 ·rw [h.1] at hn
  exact ⟨none, 0, by rw [hn], rfl, fun hp => by omega⟩
 ·have hl := h.1
  refine ⟨_, cap, by rw [hl], rfl, fun hn => ⟨g, 0, rfl, (own_lt ho rfl).1, fun i hi => ?_⟩⟩
  obtain ⟨R, m, d, h1, h2, h3⟩ := h.2 i hi
  refine ⟨R, m, d, ?_, h2.below hb, h3⟩
  rw [Nat.zero_add, own_cell ho (by rw [hl]; exact hi)]
  exact h1
theorem filter_next {p : List Bool → Bool} {L : List (List Bool)} {i : Nat} (hi : i < L.length) : (L.take (i + 1)).filter p = (L.take i).filter p ++ if p (L.getD i []) then [L.getD i []] else [] := by
 rw [take_snoc L [] hi, List.filter_append]
 by_cases h : p (L.getD i []) = true
 ·rw [List.filter_cons, if_pos h, if_pos h]; rfl
 ·rw [List.filter_cons, if_neg h, if_neg h]; rfl
set_option maxRecDepth 100000 in
set_option maxHeartbeats 4000000 in
theorem rSched_ok (u : U) (hrs : Nat) (h8 : hrs ≤ 8) (A : Option Addr) (n c : Nat) (w : World) (hs : StepsAt w A n u.steps) (hn : n ≤ maxLen) (hok : u.ok = true) :
    Calls Tryz.prog 41 #[u.val A n c, .int .i64 hrs] w fun e w' => ∃ A' c', e = .returned (.tuple #[.slice A' (u.exts hrs u.init).length c', .int .i64 0]) ∧ RowsAt w' w.heap.size A' (u.exts hrs u.init).length (u.exts hrs u.init) ∧ Ext w w' := by
  obtain ⟨i1, hi1, hy0, hy1, hy2⟩ := info_parts info_bools
  have hc : u.check 6 = 0 := of_decide_eq_true hok
  have hb : (u.check 6 == 0) = true := by simp [hc]
  have hb2 : (u.check 6 != 0) = false := by simp [hc]
  have HC := LH hc
  have HOK := LH hok
  clear hc hok
  have h8b : decide (8 < hrs) = false := by simp; omega
  have HEX := LH (exts_filter u hrs u.init)
  go_enter Tryz.func41, Tryz.ntmps41
  go_wp2_with fail
  refine (rCheck_any u 6 A n c _ (hs.below ((Below.refl _ _).alloc (Nat.le_refl _) _)) hn).mono ?_
  rintro e w1 ⟨rfl, hb1⟩
  have HE1 : Hid (Ext w w1) := Ext.new hb1
  have HU1 := LH ((ubox w u A n c).ext hb1)
  clear hb1
  go_wp2_with fail
  refine (all_any hrs _ _ rfl h8).mono ?_
  rintro e w2 ⟨AB, cB, rfl, hRB, hb5⟩
  have HE2 : Hid (Ext w w2) := ET HE1.out hb5
  have hRB := hRB.base (B' := w.heap.size) (Nat.le_trans HE1.out.size (Nat.le_refl _))
  have HU2 := LH (HU1.out.ext hb5)
  have HRB := LH hRB
  clear hb5 hRB HU1 HE1
  have hp2 : 2 ^ hrs ≤ 256 := by
    have : 2 ^ hrs ≤ 2 ^ 8 := Nat.pow_le_pow_right (by omega) h8
    omega
  obtain ⟨N, hN⟩ : ∃ N, 2 ^ hrs = N := ⟨_, rfl⟩
  have HNL : Hid ((bitsL hrs).length = N) := by unfold Hid; rw [bitsL_len, hN]
  rw [hN] at HRB hp2 ⊢
  clear hN
  go_wp2_with fail
  go_loopw [8, 9] (fun v i wr => ∃ (k : Nat) (vals : List Value), k ≤ N ∧ i = .int .i64 k ∧ Hid (wr.ownsRow w2.heap.size 31 1 v vals.length vals) ∧ Hid (KeptRows w2 w.heap.size vals (((bitsL hrs).take k).filter (u.feasFrom u.init))) ∧ Ext w2 wr) (fun _ i _ => N - (intOf i).toNat)
  case atStart => exact ⟨0, [], by omega, rfl, ⟨by simp, .inl ⟨rfl, rfl⟩⟩, ⟨by simp, by simp⟩, Ext.rfl'⟩
  case round =>
    obtain ⟨k, vals, hk, rfl, HOWN, HKR, hbw⟩ := hrel
    by_cases hlt2 : k < N
    · have hbv : decide ((k : Int) < (N : Int)) = true := by simp; omega
      have h01 : (0 : Int) ≤ (k : Int) := by omega
      have h02 : (k : Int) < (N : Int) := by omega
      obtain ⟨g, off, rfl, hgl, hcell⟩ := HRB.out.2 (by omega)
      obtain ⟨R, m, d, c1, hB, hml⟩ := hcell k hlt2
      clear hcell
      have hkl2 : k < (bitsL hrs).length := by rw [HNL.out]; exact hlt2
      have hm8 : m ≤ 1000 := by
        rw [← hB.1]
        have hmem : (bitsL hrs).getD k [] ∈ bitsL hrs := by simp [List.getD, hkl2]
        rw [bitsL_mem hrs _ hmem]
        omega
      have HB := LH hB
      have HBk := LH (hB.below hbw)
      have c2 := Ext.cellOf hbw c1
      clear c1 hB
      have HUr := LH (HU2.out.ext hbw)
      obtain ⟨d0, d1, d2, d3, d4, d5, d6, d7, d8⟩ := HUr.out
      have x0 := fun x : ExtOf wr => x.cell d0
      have x1 := fun x : ExtOf wr => x.cell d1
      have x2 := fun x : ExtOf wr => x.cell d2
      have x3 := fun x : ExtOf wr => x.cell d3
      have x4 := fun x : ExtOf wr => x.cell d4
      have x5 := fun x : ExtOf wr => x.cell d5
      have x6 := fun x : ExtOf wr => x.cell d6
      have x7 := fun x : ExtOf wr => x.cell d7
      have x8 := fun x : ExtOf wr => x.cell d8
      have x9 := fun x : ExtOf wr => x.cell c2
      have HFN := LH (filter_next (p := u.feasFrom u.init) hkl2)
      have hfe : u.feas ((bitsL hrs).getD k []) = u.feasFrom u.init ((bitsL hrs).getD k []) := by unfold U.feas; rw [HOK.out]; rfl
      have C1 := fun wx (h : Ext wr wx) => rFeasible_any u A n c R m d ((bitsL hrs).getD k []) wx ((hs.below (ET HE2.out hbw)).below h) hn (HBk.out.below h) hm8 HOK.out
      simp only [hfe] at C1
      clear hfe hkl2
      have hvl : vals.length ≤ 256 := by
        rw [HKR.out.1]
        have h1 := List.length_filter_le (u.feasFrom u.init) ((bitsL hrs).take k)
        have h2 := List.length_take_le' k (bitsL hrs)
        rw [HNL.out] at h2
        omega
      cases hff : u.feasFrom u.init ((bitsL hrs).getD k [])
      · simp only [hff] at C1
        have K1 := LH C1
        rw [hff] at HFN
        clear C1 hff
        go_wp2_with fail
        refine wp_region_ext (by kernel_rfl) (by kernel_rfl) ?_
        repeat (go_big_quiet_step (exact ext_call (K1.out _ (ExtOf.h _))))
        refine wpQuiet_nil ?_
        rintro _ ⟨x, rfl⟩
        clear x0 x1 x2 x3 x4 x5 x6 x7 x8 x9
        go_wp2_with fail
        go_roundw
        case rel => exact ⟨k + 1, vals, by omega, by go_num, own_keep HOWN.out fun g hg => x.h.block g (own_lt HOWN.out hg).1, by rw [HFN.out]; simpa [Hid] using HKR.out, ET hbw x.h⟩
        case measure => simp [intOf]; omega
      · simp only [hff] at C1
        have K1 := LH C1
        rw [hff] at HFN
        clear C1 hff
        go_wp2_with fail
        refine wp_region_ext (by kernel_rfl) (by kernel_rfl) ?_
        repeat (go_big_quiet_step (exact ext_call (K1.out _ (ExtOf.h _))))
        refine wpQuiet_nil ?_
        rintro _ ⟨x, rfl⟩
        have hx := x.h
        clear x0 x1 x2 x3 x4 x5 x6 x7 x8 x9 d0 d1 d2 d3 d4 d5 d6 d7 d8
        generalize x.w = w6 at *
        have e2 := Ext.cellOf hx c2
        have HO6 := LH (own_keep (w' := w6.alloc (.cells #[.slice R m d] 31)) HOWN.out fun g hg => (Below.heap_alloc w6 _ g (by have := (own_lt HOWN.out hg).1; have := hx.size; omega)).trans (hx.block g (own_lt HOWN.out hg).1))
        have hz6 : w2.heap.size ≤ w6.heap.size := (ET hbw hx).size
        go_wp2_with (at_builtin
                     refine wpList_append_at _ rfl (.tmp 39) (.tmp 44) 67 rfl w2.heap.size 31 i1 _ 1 24 Tryz.underlying67 hi1 hy0 hy1 hy2 rfl (by omega) _ vals.length vals rfl HO6.out
                       ⟨w6.heap.size, 0, none⟩ 1 1 [.slice R m d] rfl rfl (World.news_of_block (cs := #[.slice R m d]) (t := 31) (fr := (0, 0)) (heap_alloc_new w6 _)) (by simp [Value.oneCell']) (.inr (by omega)) (by simp [maxLen]; omega) (by omega) (by simp; omega) ?_
                     intro g2 cap2 w3 hown2 hgrow2 hat2
                     have HX2 := LH hown2
                     have HG2 := LH hgrow2
                     clear hown2 hgrow2 hat2)
        go_roundw
        case rel =>
          refine ⟨k + 1, vals ++ [.slice R m d], by omega, by go_num, by simpa [Hid] using HX2.out, by rw [HFN.out]; exact HKR.out.snoc HB.out hml, ?_⟩
          exact ext_grown (ET (ET hbw hx) (Ext.new1 w6 _)) HG2.out (by intro k2 hk2; exact (own_lt HOWN.out hk2).2)
        case measure => simp [intOf]; omega
    · have hbv : decide ((k : Int) < (N : Int)) = false := by simp; omega
      have hfin := HKR.out
      rw [List.take_of_length_le (by rw [HNL.out]; omega), ← HEX.out] at hfin
      obtain ⟨A', c', hv', hR'⟩ := hfin.rows hbw HOWN.out
      subst hv'
      have HR' := LH hR'
      clear hR' hfin
      go_wp2_with fail
      go_ret2
      exact ⟨A', c', rfl, HR'.out, ET HE2.out hbw⟩
end Go.Proofs.YtjinpfnefeiooaaGreat
