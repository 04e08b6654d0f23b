/- A part of the proof. -/
import Derived.Test.YtjinpfnefeiooaaGreatRefD
namespace Go.Proofs.YtjinpfnefeiooaaGreat
open Go.RowKit

theorem hOf_drop_le (xs : List Nat) (k : Nat) : hOf (xs.drop k) ≤ hOf xs := by
 have h := hOf_splitP xs k
 have h1 : 1 * hOf (xs.drop k) ≤ 65536 ^ k * hOf (xs.drop k) := Nat.mul_le_mul_right _ (Nat.pow_pos (by omega))
 omega
theorem small_lt {xs : List Nat} {n : Nat} (h : Halves xs) (hl : xs.length = n) (hn : n ≤ 3) : hOf xs < 281474976710656 := by
 have h1 := hOf_lt h
 rw [hl] at h1
 have h2 : 65536 ^ n ≤ 65536 ^ 3 := Nat.pow_le_pow_right (by omega) hn
 have h3 : (65536 : Nat) ^ 3 = 281474976710656 := by decide
 omega
set_option maxRecDepth 100000 in
set_option maxHeartbeats 4000000 in
theorem rsmall_any (A : Option Addr) (n c : Nat) (xs : List Nat) (w : World) (h : HalfAt w A n xs) (hn : n ≤ 3) :
  Calls Tryz.prog 137 #[.slice A n c] w fun e w' => e = .returned (.int .i64 (hOf xs : Nat)) ∧ w = w' := by
 have HA := LH h
 have HB := LH (small_lt h.2.1 h.1 hn)
 clear h
 go_enter Tryz.func137, Tryz.ntmps137
 go_wp2_with fail
 go_loop [3, 4] (fun v i => ∃ k : Nat, k ≤ n ∧ v = .int .i64 (hOf (xs.drop k) : Nat) ∧ i = .int .i64 ((k : Int) - 1)) (fun _ i => (intOf i + 1).toNat)
 case atStart => exact ⟨n, by omega, by rw [drop_end (by rw [HA.out.1]; omega)]; rfl, rfl⟩
 case round =>
  obtain ⟨k, hk, rfl, rfl⟩ := hrel
  cases k with
  | zero =>
   have HE : Hid (hOf (xs.drop 0) = hOf xs) := by unfold Hid; rw [List.drop_zero]
   have hb0 : decide ((0 : Int) ≤ ((0 : Nat) : Int) - 1) = false := by simp
   generalize hOf (xs.drop 0) = v at *
   go_wp2_with fail
   go_ret
   exact ⟨ret_i (by rw [HE.out]), rfl⟩
  | succ k =>
   rw [show (((k + 1 : Nat)) : Int) - 1 = (k : Int) by omega]
   have hb0 : decide ((0 : Int) ≤ (k : Int)) = true := by simp
   have HD1 := LH (hOf_dropP xs k)
   have hle := hOf_drop_le xs k
   have hlt := HB.out
   obtain ⟨b, off, rfl, -, hc⟩ := HA.out.2.2 (by omega)
   have xc := hc k (by omega)
   have hz0 : (0 : Int) ≤ (k : Int) := by omega
   have hzn : (k : Int) < (n : Int) := by omega
   have hx := getD_lt HA.out.2.1 k
   clear hc
   obtain ⟨v, hv⟩ : ∃ v, hOf (xs.drop (k + 1)) = v := ⟨_, rfl⟩
   obtain ⟨u, hu⟩ : ∃ v, hOf (xs.drop k) = v := ⟨_, rfl⟩
   rw [hv] at HD1 ⊢
   rw [hu] at HD1 hle
   generalize xs.getD k 0 = x at *
   have hd := HD1.out
   have hvi : (v : Int) * 65536 + (x : Int) = (u : Int) := by omega
   have hv2 : v ≤ 4294967296 := by omega
   have hu2 : u < 281474976710656 := by omega
   have HU := LH hu
   clear hd hle hlt hv hu HD1
   go_wp2_with fail
   go_round
   case rel => exact ⟨k, by omega, by rw [HU.out], by go_num⟩
   case measure => simp [intOf]
theorem half3 (w : World) (a b c : Nat) (t : TypeId) (ha : a < 65536) (hb : b < 65536) (hc : c < 65536) : HalfAt (w.alloc (.cells #[.int .i64 (a : Int), .int .i64 (b : Int), .int .i64 (c : Int)] t)) (some ⟨w.heap.size, 0, none⟩) 3 [a, b, c] := by
 have hbk := Blk.new w t #[.int .i64 (a : Int), .int .i64 (b : Int), .int .i64 (c : Int)]
 refine ⟨rfl, fun y hy => ?_, fun _ => ⟨w.heap.size, 0, rfl, by simp, fun i hi => ?_⟩⟩
 ·simp at hy; omega
 ·rw [hbk.cell, Nat.zero_add]
  have : i = 0 ∨ i = 1 ∨ i = 2 := by omega
  rcases this with rfl | rfl | rfl <;> rfl
set_option maxRecDepth 100000 in
set_option maxHeartbeats 4000000 in
theorem rback_any (v : Nat) (w : World) (hv : v < 281474976710656) :
  Calls Tryz.prog 136 #[.int .i64 (v : Int)] w (RetH w v) := by
 obtain ⟨a, ha⟩ : ∃ u, v % 65536 = u := ⟨_, rfl⟩
 obtain ⟨r, hr⟩ : ∃ u, v / 65536 = u := ⟨_, rfl⟩
 obtain ⟨b, hb⟩ : ∃ u, r % 65536 = u := ⟨_, rfl⟩
 obtain ⟨c, hc⟩ : ∃ u, r / 65536 = u := ⟨_, rfl⟩
 have h1 : (v : Int) % 65536 = (a : Int) := by omega
 have h2 : (v : Int) / 65536 = (r : Int) := by omega
 have h3 : (r : Int) % 65536 = (b : Int) := by omega
 have h4 : (r : Int) / 65536 = (c : Int) := by omega
 have ha1 : a < 65536 := by omega
 have hb1 : b < 65536 := by omega
 have hc1 : c < 65536 := by omega
 have hr1 : r ≤ 4294967295 := by omega
 have HV : Hid (hOf [a, b, c] = v) := by
  unfold Hid
  simp only [hOf]
  omega
 clear ha hr hb hc
 go_enter Tryz.func136, Tryz.ntmps136
 go_wp2_with fail
 have hH := half3 w a b c 3 ha1 hb1 hc1
 have hE : Ext w (w.alloc (.cells #[.int .i64 (a : Int), .int .i64 (b : Int), .int .i64 (c : Int)] 3)) := Ext.al Ext.rfl' _
 generalize w.alloc (.cells #[.int .i64 (a : Int), .int .i64 (b : Int), .int .i64 (c : Int)] 3) = w1 at *
 have HH := LH hH
 have HE := LH hE
 clear hH hE
 refine (rtrim_any _ 3 3 [a, b, c] w1 HH.out (by omega) (by simp [maxLen])).mono ?_
 rintro e w2 ⟨rfl, rfl⟩
 have HT := LH HH.out.trim
 have hl := half_len_ge HH.out.2.1
 rw [HV.out] at HT hl ⊢
 simp only [List.length_cons, List.length_nil, Nat.zero_add, Nat.reduceAdd] at hl
 go_wp2_with fail
 go_ret
 exact ⟨_, _, rfl, HT.out, by omega, by simp [maxLen], HE.out⟩
end Go.Proofs.YtjinpfnefeiooaaGreat
namespace Go.Proofs.YtjinpfnefeiooaaGreat
open Go.RowKit

theorem one_ints (row : List Nat) : ∀ u ∈ i64s row, u.oneCell' = true := fun u hu => by
 obtain ⟨x, _, rfl⟩ := List.mem_map.1 hu
 rfl
set_option maxRecDepth 100000 in
theorem run_append_int (w : World) (base ty : Nat) (v : Value) (n : Nat) (xs : List Value) (hown : w.ownsRow base 3 1 v n xs) (R : Option Addr) (m d : Nat) (row : List Nat) (hsrc : HalfAt w R m row)
  (hv : v ≠ .slice none 0 0 ∨ 0 < m) (h63 : n + m ≤ 1000000) (hbase : base ≤ w.heap.size) :
  ∃ g cap w', (Builtin.append_ #[120, 120] ty #[v, .slice R m d]).run Tryz.prog w = .ok (.slice (some ⟨g, 0, none⟩) (n + m) cap) w' ∧ w'.ownsRow base 3 1 (.slice (some ⟨g, 0, none⟩) (n + m) cap) (n + m) (xs ++ i64s row) ∧
   w.grownBy w' v.ownBlock ∧ (v.ownBlock = some g ∨ g = w.heap.size) := by
 obtain ⟨i0, hi0, hz0, hz1, hz2⟩ := info_parts info_int
 rcases R with _ | ad
 ·have hm : m = 0 := by
   rcases Nat.eq_zero_or_pos m with h0 | h0
   ·exact h0
   ·obtain ⟨_, _, e, _⟩ := hsrc.2.2 h0; cases e
  subst hm
  have hrow : row = [] := List.eq_nil_of_length_eq_zero hsrc.1
  subst hrow
  rcases hown.2 with ⟨rfl, _⟩ | ⟨g, cap, cur, rfl, h1, h2, h3, h4⟩
  ·rcases hv with hv | hv
   ·exact absurd rfl hv
   ·omega
  ·refine ⟨g, cap, w, ?_, by simpa [i64s] using hown, World.grownBy.refl w _, .inl rfl⟩
   simp [Builtin.append_, run_underlying Tryz.underlying120, sizeOf, typeInfo, hi0, Builtin.lenOf, Builtin.firstCells, h3, storeCells]
 ·have hnews : ∀ j x, (i64s row)[j]? = some x → w.cell? (ad.add j) = some x := by
   intro j x hx
   rcases Nat.eq_zero_or_pos m with h0 | h0
   ·have hrow : row = [] := List.eq_nil_of_length_eq_zero (by rw [hsrc.1, h0])
    subst hrow
    simp [i64s] at hx
   ·obtain ⟨b, off, e, hlt, hc⟩ := hsrc.2.2 h0
    injection e with e
    subst e
    have hj : j < row.length := by
     rcases Nat.lt_or_ge j row.length with h | h
     ·exact h
     ·rw [List.getElem?_eq_none (by rw [i64s_len]; exact h)] at hx; cases hx
    have : (⟨b, off, none⟩ : Addr).add j = ⟨b, off + j, none⟩ := by unfold Addr.add; split <;> simp_all
    rw [this, hc j (by rw [← hsrc.1]; exact hj), ← hx]
    simp [i64s, List.getD, hj]
  obtain ⟨v', w', hrun, h2, h3, h4, h5⟩ := run_append_own_at (P := Tryz.prog) w base 120 ty 3 i0 _ 1 8 Tryz.underlying120 hi0 hz0 hz1 hz2 rfl (by omega) v n xs hown ad m d (i64s row) (by rw [i64s_len, hsrc.1]; omega) hnews (one_ints row) (by simp [maxLen]; omega) (by omega) hbase
  rcases h2.2 with ⟨hn, _⟩ | ⟨g, cap, cur, rfl, h6⟩
  ·exact absurd (h4.1 hn) (by rintro ⟨e1, e2⟩; rcases hv with hv | hv; exact hv e1; omega)
  ·refine ⟨g, cap, w', hrun, h2, h3, ?_⟩
   rcases h5 with h5 | h5
   ·exact .inl h5.symm
   ·exact .inr (by simpa [Value.ownBlock] using h5)
theorem wpList_append_int (w : World) {ops : Array Oper} {rest : List Oper} {o : Oper} {a : Act} {Q : Exit → Act → World → Prop} (hgd : o.guard = none) (s x : Operand)
  (ho : o.op = .call { callee := .builtin .append, args := #[s, x], argTypes := #[120, 120] })
  (base : Nat) (v : Value) (n : Nat) (xs : List Value) (hs : a.eval s = v) (hown : w.ownsRow base 3 1 v n xs) (R : Option Addr) (m d : Nat) (row : List Nat) (hx : a.eval x = .slice R m d) (hsrc : HalfAt w R m row)
  (hv : v ≠ .slice none 0 0 ∨ 0 < m) (h63 : n + m ≤ 1000000) (hbase : base ≤ w.heap.size)
  (h : ∀ g cap w', w'.ownsRow base 3 1 (.slice (some ⟨g, 0, none⟩) (n + m) cap) (n + m) (xs ++ i64s row) → w.grownBy w' v.ownBlock → (v.ownBlock = some g ∨ g = w.heap.size) → wpList Tryz.prog ops Q rest (a.put o.dst (.slice (some ⟨g, 0, none⟩) (n + m) cap)) w') :
  wpList Tryz.prog ops Q (o :: rest) a w := by
 obtain ⟨g, cap, w', hrun, h2, h3, h4⟩ := run_append_int w base o.type v n xs hown R m d row hsrc hv h63 hbase
 refine wpList_plain hgd fun K hK => ?_
 unfold Oper.wp execOp
 simp only [ho, resolve, invoke, builtin, Sem.run_bind, Sem.run_pure, Result.andThen_ok, List.map_toArray, List.map_cons, List.map_nil, hs, hx, hrun]
 exact hK _ _ (h g cap w' h2 h3 h4)
end Go.Proofs.YtjinpfnefeiooaaGreat
namespace Go.Proofs.YtjinpfnefeiooaaGreat
open Go.RowKit

def HasH (w : World) (v : Value) (L m : Nat) : Prop := ∃ A c ds, v = .slice A L c ∧ HalfAt w A L ds ∧ hOf ds = m ∧ L ≤ c ∧ c ≤ maxLen
theorem HasH.nil (w : World) : HasH w (.slice none 0 0) 0 0 := ⟨none, 0, [], rfl, HalfAt.nil w none, rfl, Nat.le_refl _, by simp [maxLen]⟩
theorem pow_add_lt {a b n m : Nat} (h : a < 65536 ^ n) (k : b < 65536 ^ m) : a * b < 65536 ^ (n + m) := by
 rw [Nat.pow_add]
 exact Nat.mul_lt_mul'' h k
theorem hOf_drop_lt {xs : List Nat} (h : Halves xs) (k : Nat) : hOf (xs.drop k) < 65536 ^ (xs.length - k) := by
 have := hOf_lt (h.drop k)
 rwa [List.length_drop] at this
theorem mul_len {xs ys : List Nat} {n m k t : Nat} (hx : Halves xs) (hy : Halves ys) (hn : xs.length = n) (hm : ys.length = m) (_hk : k + 1 ≤ n) (ht : t ≤ xs.getD k 0) :
  (halfOf ((65536 * hOf (xs.drop (k + 1)) + t) * hOf ys)).length ≤ n - k + m := by
 rw [halfOf_len]
 have h1 := hOf_drop_lt hx k
 have h2 := hOf_lt hy
 rw [hn] at h1
 rw [hm] at h2
 have h3 := hOf_dropP xs k
 exact pow_add_lt (by omega) h2
theorem times_len {ys : List Nat} {m t : Nat} (hy : Halves ys) (hm : ys.length = m) (ht : t < 65536) : (halfOf (t * hOf ys)).length ≤ 1 + m := by
 rw [halfOf_len]
 have h2 := hOf_lt hy
 rw [hm] at h2
 exact pow_add_lt (by simpa using ht) h2
theorem lit_int (w : World) (B : Nat) (hB : B ≤ w.heap.size) (x : Nat) : (w.alloc (.cells #[.int .i64 (x : Int)] 3)).ownsRow B 3 1 (.slice (some ⟨w.heap.size, 0, none⟩) 1 1) 1 (i64s [x]) :=
 ⟨by simp [i64s], .inr ⟨w.heap.size, 1, #[.int .i64 (x : Int)], rfl, hB, heap_alloc_new w _, Nat.le_refl _, by simp [maxLen], by simp, by simp [i64s]⟩⟩
theorem wpList_cons_int (w : World) (x : Nat) (hx : x < 65536) {ops : Array Oper} {rest : List Oper} {o : Oper} {a : Act} {Q : Exit → Act → World → Prop} (hgd : o.guard = none) (s y : Operand)
  (ho : o.op = .call { callee := .builtin .append, args := #[s, y], argTypes := #[120, 120] })
  (hs : a.eval s = .slice (some ⟨w.heap.size, 0, none⟩) 1 1) (A : Option Addr) (L c : Nat) (ds : List Nat) (hy : a.eval y = .slice A L c) (hsrc : HalfAt w A L ds) (h63 : L ≤ 999999)
  (h : ∀ g cap w', HalfAt w' (some ⟨g, 0, none⟩) (1 + L) (x :: ds) → 1 + L ≤ cap → cap ≤ maxLen → Ext w w' → wpList Tryz.prog ops Q rest (a.put o.dst (.slice (some ⟨g, 0, none⟩) (1 + L) cap)) w') :
  wpList Tryz.prog ops Q (o :: rest) a (w.alloc (.cells #[.int .i64 (x : Int)] 3)) := by
 have hE : Ext w (w.alloc (.cells #[.int .i64 (x : Int)] 3)) := Ext.al Ext.rfl' _
 refine wpList_append_int _ hgd s y ho w.heap.size _ 1 _ hs (lit_int w _ (Nat.le_refl _) x) A L c ds hy (hsrc.below hE) (.inl (by simp)) (by omega) hE.size fun g cap w' hown hgr hgg => ?_
 have hown2 : w'.ownsRow w.heap.size 3 1 (.slice (some ⟨g, 0, none⟩) (1 + L) cap) (1 + L) (i64s (x :: ds)) := hown
 obtain ⟨A2, c2, e, h1, h2, h3⟩ := own_half hown2 (Halves.cons hx hsrc.2.1)
 injection e with e1 e2 e3
 subst e1 e3
 exact h g cap w' h3 h1 h2 (ext_grownW hE hgr (fun g hg => by simp [Value.ownBlock] at hg; omega))
set_option maxRecDepth 100000 in
set_option maxHeartbeats 8000000 in
theorem rmul_any (A : Option Addr) (n c : Nat) (xs : List Nat) (B : Option Addr) (m d : Nat) (ys : List Nat) (w : World) (ha : HalfAt w A n xs) (hb : HalfAt w B m ys) (hn : n ≤ 400000) (hm : m ≤ 400000) :
  Calls Tryz.prog 119 #[.slice A n c, .slice B m d] w (RetH w (hOf xs * hOf ys)) := by
 have HA := LH ha
 have HB := LH hb
 clear ha hb
 go_enter Tryz.func119, Tryz.ntmps119
 by_cases hs : n + m ≤ 3
 ·have hb1 : decide ((n : Int) + (m : Int) ≤ 3) = true := by simp; omega
  have CA := LH (rsmall_any A n c xs w HA.out (by omega))
  have CB := LH (rsmall_any B m d ys w HB.out (by omega))
  have hxl : hOf xs < 281474976710656 := small_lt HA.out.2.1 HA.out.1 (by omega)
  have hyl : hOf ys < 281474976710656 := small_lt HB.out.2.1 HB.out.1 (by omega)
  have hpl : hOf xs * hOf ys < 281474976710656 := by
   have h1 := hOf_lt HA.out.2.1
   have h2 := hOf_lt HB.out.2.1
   rw [HA.out.1] at h1
   rw [HB.out.1] at h2
   have h3 := pow_add_lt h1 h2
   have h4 : 65536 ^ (n + m) ≤ 65536 ^ 3 := Nat.pow_le_pow_right (by omega) hs
   have h5 : (65536 : Nat) ^ 3 = 281474976710656 := by decide
   omega
  have CC := LH (rback_any (hOf xs * hOf ys) w hpl)
  obtain ⟨p, hp⟩ : ∃ p, hOf xs * hOf ys = p := ⟨_, rfl⟩
  have hpi : ((hOf xs : Nat) : Int) * ((hOf ys : Nat) : Int) = (p : Int) := by rw [← hp]; simp
  rw [hp] at CC hpl ⊢
  clear hp
  generalize hOf xs = x at *
  generalize hOf ys = y at *
  go_wp2_with fail
  refine CA.out.mono ?_
  rintro e w1 ⟨rfl, rfl⟩
  go_wp2_with fail
  refine CB.out.mono ?_
  rintro e w1 ⟨rfl, rfl⟩
  go_wp2_with fail
  refine CC.out.mono ?_
  rintro e w1 ⟨A', c', rfl, h1, h2, h3, h4⟩
  have HR : Hid (HalfAt w1 A' (halfOf p).length (halfOf p) ∧ (halfOf p).length ≤ c' ∧ c' ≤ maxLen ∧ Ext w w1) := ⟨h1, h2, h3, h4⟩
  clear h1 h2 h3 h4
  go_wp2_with fail
  go_ret
  exact ⟨_, _, rfl, HR.out⟩
 ·have hb1 : decide ((n : Int) + (m : Int) ≤ 3) = false := by simp; omega
  go_wp2_with fail
  go_loopw [5, 6] (fun v i wr => ∃ (k L : Nat), k ≤ n ∧ L ≤ n - k + m ∧ i = .int .i64 ((k : Int) - 1) ∧ Hid (Ext w wr ∧ HasH wr v L (hOf (xs.drop k) * hOf ys))) (fun _ i _ => (intOf i + 1).toNat)
  case atStart => exact ⟨n, 0, by omega, by omega, rfl, Ext.rfl', by rw [drop_end (by rw [HA.out.1]; omega), Nat.zero_mul]; exact HasH.nil w⟩
  case round =>
   obtain ⟨k, L, hk, hL, rfl, HI⟩ := hrel
   have HE := LH HI.out.1
   have HO := LH HI.out.2
   clear HI
   cases k with
   | zero =>
    have hb0 : decide ((0 : Int) ≤ ((0 : Nat) : Int) - 1) = false := by simp
    obtain ⟨A', c', ds, rfl, h1, h2, h3, h4⟩ := HO.out
    rw [List.drop_zero] at h2
    have HH := LH h1
    have HV := LH h2
    clear h1 h2 HO
    go_wp2_with fail
    refine (rtrim_any A' L c' ds wr HH.out h3 h4).mono ?_
    rintro e w1 ⟨rfl, rfl⟩
    have HT := LH HH.out.trim
    have hl := half_len_ge HH.out.2.1
    rw [HH.out.1] at hl
    rw [HV.out] at HT hl ⊢
    go_wp2_with fail
    go_ret
    exact ⟨_, _, rfl, HT.out, by omega, h4, HE.out⟩
   | succ k =>
    rw [show (((k + 1 : Nat)) : Int) - 1 = (k : Int) by omega]
    have hb0 : decide ((0 : Int) ≤ (k : Int)) = true := by simp
    obtain ⟨A', c', ds, rfl, h1, h2, h3, h4⟩ := HO.out
    have HH := LH h1
    have HV := LH h2
    clear h1 h2 HO
    obtain ⟨b, off, rfl, -, hcell⟩ := HA.out.2.2 (by omega)
    have HC := LH (hcell k (by omega))
    clear hcell
    have hx := getD_lt HA.out.2.1 k
    have HD := LH (hOf_dropP xs k)
    have HM := LH (fun t => mul_len (t := t) HA.out.2.1 HB.out.2.1 HA.out.1 HB.out.1 hk)
    generalize xs.getD k 0 = x at *
    go_wp2_with (at_builtin; refine wpList_cons_int wr 0 (by omega) rfl (.tmp 27) (.tmp 28) rfl rfl A' L c' ds rfl HH.out (by omega) ?_; intro g cap w4 h5 h6 h7 h8)
    have HO4 : Hid (Ext w w4 ∧ HasH w4 (.slice (some ⟨g, 0, none⟩) (1 + L) cap) (1 + L) ((65536 * hOf (xs.drop (k + 1)) + 0) * hOf ys)) := by
     refine ⟨ET HE.out h8, _, cap, 0 :: ds, rfl, h5, ?_, h6, h7⟩
     simp only [hOf, HV.out, Nat.zero_add, Nat.add_zero, Nat.mul_assoc]
    clear h5 h6 h7 h8 HH HV HE
    go_loopw [5, 7] (fun v i wq => ∃ (j L : Nat), j ≤ 70000 ∧ L ≤ n - k + m ∧ i = .int .i64 (j : Int) ∧ Hid (Ext w wq ∧ HasH wq v L ((65536 * hOf (xs.drop (k + 1)) + min j x) * hOf ys))) (fun _ i _ => x - (intOf i).toNat)
    case atStart => exact ⟨0, 1 + L, by omega, by omega, rfl, HO4.out.1, by rw [Nat.zero_min]; exact HO4.out.2⟩
    case round =>
     clear HO4
     obtain ⟨j, L2, hj, hL2, rfl, HI⟩ := hrel
     have HE := LH HI.out.1
     obtain ⟨A2, c2, es, rfl, h1, h2, h3, h4⟩ := HI.out.2
     have HH := LH h1
     have HV := LH h2
     have HCA := LH (And.intro h3 h4)
     have hcl := Ext.cellOf HE.out HC.out
     clear h1 h2 h3 h4 HI
     have hz0 : (0 : Int) ≤ (k : Int) := by omega
     have hzn : (k : Int) < (n : Int) := by omega
     by_cases hjx : j < x
     ·have hb2 : decide ((j : Int) < (x : Int)) = true := by simp; omega
      have hb3 : decide (j < x) = true := by simp; omega
      obtain ⟨u, hu⟩ : ∃ u, x - j = u := ⟨_, rfl⟩
      have hui : (x : Int) - (j : Int) = (u : Int) := by omega
      obtain ⟨t, ht⟩ : ∃ t, min 1024 u = t := ⟨_, rfl⟩
      have htl : t ≤ 1024 := by omega
      have CT := LH (rtimes_any B m d ys t wr (HB.out.below HE.out) (by omega) (by omega))
      have HTL : Hid ((halfOf (t * hOf ys)).length ≤ 1 + m) := times_len HB.out.2.1 HB.out.1 (by omega)
      have HT : Hid (min (j + 1024) x = min j x + t) := by unfold Hid; omega
      have HL : Hid (min j x + t ≤ x) := by unfold Hid; omega
      have HJ : Hid (x - (j + 1024) < x - j) := by unfold Hid; omega
      by_cases hu2 : u < 1024
      ·have hm1 : decide ((u : Int) < 1024) = true := by simp; omega
       have hm2 : decide ((1024 : Int) < (u : Int)) = false := by simp; omega
       have hm3 : decide ((1024 : Int) ≤ (u : Int)) = false := by simp; omega
       have hm4 : decide ((u : Int) ≤ 1024) = true := by simp; omega
       obtain rfl : t = u := by omega
       clear ht hu
       go_wp2_with fail
       refine CT.out.mono ?_
       rintro e w1 ⟨A3, c3, rfl, h1, h2, h3, h4⟩
       have HE1 := LH (ET HE.out h4)
       have CS := LH (radd_any A2 L2 c2 es A3 _ c3 _ w1 (HH.out.below h4) h1 (by omega) (Nat.le_trans HTL.out (by omega)))
       rw [HV.out, hOf_halfOf, ← Nat.add_mul, Nat.add_assoc, ← HT.out] at CS
       clear h1 h2 h3 h4
       go_wp2_with fail
       refine CS.out.mono ?_
       rintro e w2 ⟨A4, c4, rfl, h1, h2, h3, h4⟩
       have HO5 : Hid (Ext w w2 ∧ HasH w2 (.slice A4 (halfOf ((65536 * hOf (xs.drop (k + 1)) + min (j + 1024) x) * hOf ys)).length c4) (halfOf ((65536 * hOf (xs.drop (k + 1)) + min (j + 1024) x) * hOf ys)).length ((65536 * hOf (xs.drop (k + 1)) + min (j + 1024) x) * hOf ys)) := ⟨ET HE1.out h4, A4, c4, _, rfl, h1, hOf_halfOf _, h2, h3⟩
       have HL5 : Hid ((halfOf ((65536 * hOf (xs.drop (k + 1)) + min (j + 1024) x) * hOf ys)).length ≤ n - k + m) := HM.out _ (by rw [HT.out]; exact HL.out)
       clear h1 h2 h3 h4 CS
       generalize (halfOf ((65536 * hOf (xs.drop (k + 1)) + min (j + 1024) x) * hOf ys)).length = L5 at *
       go_wp2_with fail
       go_roundw
       case rel => exact ⟨j + 1024, L5, by omega, HL5.out, by go_num, HO5.out⟩
       case measure => simp [intOf]; exact HJ.out
      ·have hm1 : decide ((u : Int) < 1024) = false := by simp; omega
       have hm3 : decide ((1024 : Int) ≤ (u : Int)) = true := by simp; omega
       have htk : (t : Int) = 1024 := by omega
       clear ht hu
       rw [htk] at CT
       go_wp2_with fail
       refine CT.out.mono ?_
       rintro e w1 ⟨A3, c3, rfl, h1, h2, h3, h4⟩
       have HE1 := LH (ET HE.out h4)
       have CS := LH (radd_any A2 L2 c2 es A3 _ c3 _ w1 (HH.out.below h4) h1 (by omega) (Nat.le_trans HTL.out (by omega)))
       rw [HV.out, hOf_halfOf, ← Nat.add_mul, Nat.add_assoc, ← HT.out] at CS
       clear h1 h2 h3 h4
       go_wp2_with fail
       refine CS.out.mono ?_
       rintro e w2 ⟨A4, c4, rfl, h1, h2, h3, h4⟩
       have HO5 : Hid (Ext w w2 ∧ HasH w2 (.slice A4 (halfOf ((65536 * hOf (xs.drop (k + 1)) + min (j + 1024) x) * hOf ys)).length c4) (halfOf ((65536 * hOf (xs.drop (k + 1)) + min (j + 1024) x) * hOf ys)).length ((65536 * hOf (xs.drop (k + 1)) + min (j + 1024) x) * hOf ys)) := ⟨ET HE1.out h4, A4, c4, _, rfl, h1, hOf_halfOf _, h2, h3⟩
       have HL5 : Hid ((halfOf ((65536 * hOf (xs.drop (k + 1)) + min (j + 1024) x) * hOf ys)).length ≤ n - k + m) := HM.out _ (by rw [HT.out]; exact HL.out)
       clear h1 h2 h3 h4 CS
       generalize (halfOf ((65536 * hOf (xs.drop (k + 1)) + min (j + 1024) x) * hOf ys)).length = L5 at *
       go_wp2_with fail
       go_roundw
       case rel => exact ⟨j + 1024, L5, by omega, HL5.out, by go_num, HO5.out⟩
       case measure => simp [intOf]; exact HJ.out
     ·have hb2 : decide ((j : Int) < (x : Int)) = false := by simp; omega
      have hb3 : decide (j < x) = false := by simp; omega
      have HX : Hid ((65536 * hOf (xs.drop (k + 1)) + min j x) * hOf ys = hOf (xs.drop k) * hOf ys) := by
       unfold Hid
       rw [HD.out, Nat.min_eq_right (by omega)]
       congr 1
       omega
      go_wp2_with fail
      go_roundw
      case rel => exact ⟨k, L2, by omega, by omega, by go_num, HE.out, A2, c2, es, rfl, HH.out, by rw [HV.out, HX.out], HCA.out⟩
      case measure => simp [intOf]
end Go.Proofs.YtjinpfnefeiooaaGreat
