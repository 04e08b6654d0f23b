/- A part of the proof. -/
import Derived.Test.YtjinpfnefeiooaaGreatRefR
import Derived.Test.YtjinpfnefeiooaaGreatRefSU
namespace Go.Proofs.YtjinpfnefeiooaaGreat
open Go.RowKit

def ZLst (w : World) (b : Bool) (A : Option Addr) (n c : Nat) (z : Int) : Prop := b = decide (z < 0) ∧ WordsAt w A n (wordsOf z.natAbs) ∧ n ≤ c ∧ c ≤ maxLen
theorem ZLst.is {w : World} {b : Bool} {A : Option Addr} {n c : Nat} {z : Int} (h : ZLst w b A n c z) : ZIs w b A n c z := ⟨_, h.2.1, h.2.2.1, h.2.2.2, by rw [natOf_wordsOf, h.1, sgn_natAbs]⟩
theorem ZLst.ext {w w' : World} {b : Bool} {A : Option Addr} {n c : Nat} {z : Int} (h : ZLst w b A n c z) (hb : Ext w w') : ZLst w' b A n c z := ⟨h.1, h.2.1.below hb, h.2.2⟩
def QNew (w : World) (B0 : Nat) (s : Bool) (A : Option Addr) (n c : Nat) (t : Bool) (B : Option Addr) (m d : Nat) (q : Rat) : Prop := ZLst w s A n c q.num ∧ ZLst w t B m d (denOf q) ∧ Away 0 B0 A n ∧ Away 0 B0 B m
section
variable {w w' : World} {B0 : Nat} {s : Bool} {A : Option Addr} {n c : Nat} {t : Bool} {B : Option Addr} {m d : Nat} {q : Rat}
theorem QCan.nw (h : QCan w B0 s A n c t B m d q) : QNew w B0 s A n c t B m d q := ⟨⟨h.1.1, h.1.2.1, h.1.2.2.1, h.1.2.2.2.1⟩, ⟨h.2.1, h.2.2.1, h.2.2.2.1, h.2.2.2.2.1⟩, h.away 0⟩
theorem QNew.is (h : QNew w B0 s A n c t B m d q) : QIs w s A n c t B m d q := ⟨_, _, h.1.is, h.2.1.is, (qOf_self q).symm⟩
theorem QNew.ext (h : QNew w B0 s A n c t B m d q) (hb : Ext w w') : QNew w' B0 s A n c t B m d q := ⟨h.1.ext hb, h.2.1.ext hb, h.2.2⟩
theorem Away.base {lo B1 B2 : Nat} {A : Option Addr} {n : Nat} (h : Away 0 B2 A n) (hb : B1 ≤ B2) : Away lo B1 A n := fun hn ad ha => by
 have := h hn ad ha
 omega
theorem QNew.base {B1 : Nat} (h : QNew w B0 s A n c t B m d q) (hb : B1 ≤ B0) : QNew w B1 s A n c t B m d q := ⟨h.1, h.2.1, h.2.2.1.base hb, h.2.2.2.base hb⟩
theorem QNew.len (h : QNew w B0 s A n c t B m d q) {k : Nat} (hk : Sz k q) : n ≤ k ∧ m ≤ k := by
 refine ⟨?_, ?_⟩
 ·rw [← h.1.2.1.1]; exact wordsOf_len.2 hk.1
 ·rw [← h.2.1.2.1.1]; exact wordsOf_len.2 (denOf_lt hk)
theorem QNew.rarg (h : QNew w B0 s A n c t B m d q) {k K : Nat} (hk : Sz k q) (hK : k ≤ K) : RArg K w s A n c t B m d q := h.is.rarg (Nat.le_trans (h.len hk).1 hK) (Nat.le_trans (h.len hk).2 hK)
theorem QNew.grown {row : Option Nat} (hg : w.grownBy w' row) (h : QNew w B0 s A n c t B m d q) (ha : AwayO row A n ∧ AwayO row B m) : QNew w' B0 s A n c t B m d q :=
 ⟨⟨h.1.1, h.1.2.1.grown hg ha.1, h.1.2.2⟩, ⟨h.2.1.1, h.2.1.2.1.grown hg ha.2, h.2.1.2.2⟩, h.2.2⟩
theorem ZLst.put4 {b : Bool} {z : Int} (h : ZLst w b A n c z) {g : Nat} (ha : Away g (g + 1) A n) (off : Nat) (v0 v1 v2 v3 : Value) : ZLst (Go.Proofs.YtjinpfnefeiooaaGreat.put4 w g off v0 v1 v2 v3) b A n c z :=
 ⟨h.1, (((h.2.1.putAway ha (p := ⟨g, off, none⟩) (Nat.le_refl _) (Nat.lt_succ_self _) v0).putAway ha (p := ⟨g, off + 1, none⟩) (Nat.le_refl _) (Nat.lt_succ_self _) v1).putAway ha (p := ⟨g, off + 2, none⟩) (Nat.le_refl _) (Nat.lt_succ_self _) v2).putAway ha (p := ⟨g, off + 3, none⟩) (Nat.le_refl _) (Nat.lt_succ_self _) v3, h.2.2⟩
theorem QNew.put4 (h : QNew w B0 s A n c t B m d q) {g : Nat} (hg : g < B0) (off : Nat) (v0 v1 v2 v3 : Value) : QNew (Go.Proofs.YtjinpfnefeiooaaGreat.put4 w g off v0 v1 v2 v3) B0 s A n c t B m d q :=
 ⟨h.1.put4 (h.2.2.1.base (by omega)) off v0 v1 v2 v3, h.2.1.put4 (h.2.2.2.base (by omega)) off v0 v1 v2 v3, h.2.2⟩
theorem QNew.awayO (h : QNew w B0 s A n c t B m d q) {r : Option Nat} (hr : ∀ g, r = some g → g < B0) : AwayO r A n ∧ AwayO r B m :=
 ⟨fun g hg => h.2.2.1.base (by have := hr g hg; omega), fun g hg => h.2.2.2.base (by have := hr g hg; omega)⟩
end
def LRow (w : World) (P : Option Addr) (n : Nat) (f : Nat → Rat) : Prop := ∀ i, i < n → ∃ (g off : Nat) (s : Bool) (A : Option Addr) (k c : Nat) (t : Bool) (B : Option Addr) (m d : Nat), P = some ⟨g, off, none⟩ ∧ g < w.heap.size ∧
 w.cell? ⟨g, off + i * 4, none⟩ = some (.bool s) ∧ w.cell? ⟨g, off + i * 4 + 1, none⟩ = some (.slice A k c) ∧ w.cell? ⟨g, off + i * 4 + 2, none⟩ = some (.bool t) ∧ w.cell? ⟨g, off + i * 4 + 3, none⟩ = some (.slice B m d) ∧ QNew w 0 s A k c t B m d (f i)
def QGrow (w : World) (B0 : Nat) (v : Value) (n : Nat) (f : Nat → Rat) : Prop := ∃ cs, w.ownsRow B0 29 4 v n cs ∧ ∀ i, i < n → ∃ (s : Bool) (A : Option Addr) (m c : Nat) (t : Bool) (B : Option Addr) (k d : Nat),
 cs[i * 4]? = some (.bool s) ∧ cs[i * 4 + 1]? = some (.slice A m c) ∧ cs[i * 4 + 2]? = some (.bool t) ∧ cs[i * 4 + 3]? = some (.slice B k d) ∧ QNew w B0 s A m c t B k d (f i) ∧ AwayO v.ownBlock A m ∧ AwayO v.ownBlock B k
theorem QGrow.nil (w : World) (B0 : Nat) (f : Nat → Rat) : QGrow w B0 (.slice none 0 0) 0 f := ⟨[], own_nil _ _ _ _, fun i hi => by omega⟩
theorem QGrow.ext {w w' : World} {B0 : Nat} {v : Value} {n : Nat} {f : Nat → Rat} (h : QGrow w B0 v n f) (hb : Ext w w') : QGrow w' B0 v n f := by
 obtain ⟨cs, h2, h3⟩ := h
 refine ⟨cs, own_keep h2 (fun g hg => hb.block g (own_lt h2 hg).1), fun i hi => ?_⟩
 obtain ⟨s, A, m, c, t, B, k, d, a0, a1, a2, a3, a4, a5⟩ := h3 i hi
 exact ⟨s, A, m, c, t, B, k, d, a0, a1, a2, a3, a4.ext hb, a5⟩
theorem QGrow.lt {w : World} {B0 : Nat} {v : Value} {n : Nat} {f : Nat → Rat} (h : QGrow w B0 v n f) {g : Nat} (hg : v.ownBlock = some g) : g < w.heap.size ∧ B0 ≤ g := by
 obtain ⟨cs, h2, -⟩ := h
 exact own_lt h2 hg
theorem QGrow.put4 {w : World} {B0 : Nat} {v : Value} {n : Nat} {f : Nat → Rat} (h : QGrow w B0 v n f) {g : Nat} (hg : g < B0) (off : Nat) (v0 v1 v2 v3 : Value) : QGrow (put4 w g off v0 v1 v2 v3) B0 v n f := by
 obtain ⟨cs, h2, h3⟩ := h
 refine ⟨cs, own_keep h2 (fun k hk => ?_), fun i hi => ?_⟩
 ·have := own_lt h2 hk
  have e : ∀ (w : World) (o : Nat) (u : Value), (w.setCell ⟨g, o, none⟩ u).heap[k]? = w.heap[k]? := fun w o u => Below.heap_setCell w ⟨g, o, none⟩ u k (by simp; omega)
  show (((((w.setCell _ _).setCell _ _).setCell _ _).setCell _ _) : World).heap[k]? = _
  rw [e, e, e, e]
 ·obtain ⟨s, A, m, c, t, B, k, d, a0, a1, a2, a3, a4, a5⟩ := h3 i hi
  exact ⟨s, A, m, c, t, B, k, d, a0, a1, a2, a3, a4.put4 hg off v0 v1 v2 v3, a5⟩
theorem QGrow.push {w w' : World} {B0 : Nat} {v : Value} {n : Nat} {f : Nat → Rat} {cs : List Value} (h2 : w.ownsRow B0 29 4 v n cs) (h3 : ∀ i, i < n → ∃ (s : Bool) (A : Option Addr) (m c : Nat) (t : Bool) (B : Option Addr) (k d : Nat),
  cs[i * 4]? = some (.bool s) ∧ cs[i * 4 + 1]? = some (.slice A m c) ∧ cs[i * 4 + 2]? = some (.bool t) ∧ cs[i * 4 + 3]? = some (.slice B k d) ∧ QNew w B0 s A m c t B k d (f i) ∧ AwayO v.ownBlock A m ∧ AwayO v.ownBlock B k)
  {g cap : Nat} {s : Bool} {A : Option Addr} {m c : Nat} {t : Bool} {B : Option Addr} {k d : Nat} (hq : QNew w B0 s A m c t B k d (f n)) (ha : AwayO v.ownBlock A m ∧ AwayO v.ownBlock B k)
  (hown : w'.ownsRow B0 29 4 (.slice (some ⟨g, 0, none⟩) (n + 1) cap) (n + 1) (cs ++ [.bool s, .slice A m c, .bool t, .slice B k d])) (hgr : w.grownBy w' v.ownBlock) (hgg : v.ownBlock = some g ∨ g = w.heap.size) :
  QGrow w' B0 (.slice (some ⟨g, 0, none⟩) (n + 1) cap) (n + 1) f := by
 have hcs : cs.length = n * 4 := h2.1
 have aw : ∀ {s : Bool} {A : Option Addr} {m c : Nat} {t : Bool} {B : Option Addr} {k d : Nat} {q : Rat}, QIs w s A m c t B k d q → AwayO v.ownBlock A m ∧ AwayO v.ownBlock B k → AwayO (some g) A m ∧ AwayO (some g) B k := fun {_ _ _ _ _ _ _ _ _} hq ha => by
  rcases hgg with e | e
  ·rw [← e]; exact ha
  ·have := hq.away (g + 1)
   rw [← e] at this
   exact ⟨fun g' hg' => by injection hg' with hg'; subst hg'; exact this.1, fun g' hg' => by injection hg' with hg'; subst hg'; exact this.2⟩
 refine ⟨_, hown, fun i hi => ?_⟩
 by_cases he : i < n
 ·obtain ⟨s', A', m', c', t', B', k', d', a0, a1, a2, a3, a4, a6⟩ := h3 i he
  refine ⟨s', A', m', c', t', B', k', d', ?_, ?_, ?_, ?_, a4.grown hgr a6, aw a4.is a6⟩
  ·rw [List.getElem?_append_left (by omega)]; exact a0
  ·rw [List.getElem?_append_left (by omega)]; exact a1
  ·rw [List.getElem?_append_left (by omega)]; exact a2
  ·rw [List.getElem?_append_left (by omega)]; exact a3
 ·have hin : i = n := by omega
  subst hin
  refine ⟨s, A, m, c, t, B, k, d, ?_, ?_, ?_, ?_, hq.grown hgr ha, aw hq.is ha⟩
  ·rw [List.getElem?_append_right (by omega), hcs, Nat.sub_self]; rfl
  ·rw [List.getElem?_append_right (by omega), hcs, show i * 4 + 1 - i * 4 = 1 by omega]; rfl
  ·rw [List.getElem?_append_right (by omega), hcs, show i * 4 + 2 - i * 4 = 2 by omega]; rfl
  ·rw [List.getElem?_append_right (by omega), hcs, show i * 4 + 3 - i * 4 = 3 by omega]; rfl
theorem QGrow.lrow {w : World} {B0 : Nat} {v : Value} {n : Nat} {f : Nat → Rat} (h : QGrow w B0 v n f) : ∃ P c, v = .slice P n c ∧ n ≤ c ∧ c ≤ maxLen ∧ LRow w P n f := by
 obtain ⟨cs, h2, h3⟩ := h
 have h2' := h2
 rcases h2.2 with ⟨rfl, hn⟩ | ⟨g, cap, cur, rfl, hb, hh, hc1, hc2, hc3, hc4⟩
 ·subst hn
  exact ⟨none, 0, rfl, by omega, by simp [maxLen], fun i hi => by omega⟩
 ·refine ⟨_, _, rfl, by omega, by omega, fun i hi => ?_⟩
  obtain ⟨s, A, m, c, t, B, k, d, a0, a1, a2, a3, a4, _⟩ := h3 i hi
  refine ⟨g, 0, s, A, m, c, t, B, k, d, rfl, (own_lt h2' rfl).1, ?_, ?_, ?_, ?_, a4.base (Nat.zero_le _)⟩
  ·rw [Nat.zero_add, h2'.cellAt (i * 4) (by omega)]; exact a0
  ·rw [Nat.zero_add, h2'.cellAt (i * 4 + 1) (by omega)]; exact a1
  ·rw [Nat.zero_add, h2'.cellAt (i * 4 + 2) (by omega)]; exact a2
  ·rw [Nat.zero_add, h2'.cellAt (i * 4 + 3) (by omega)]; exact a3
theorem Cell4.grownR {w w' : World} {row : Option Nat} (hg : w.grownBy w' row) {r : Nat} {v0 v1 v2 v3 : Value} (h : Cell4 w r v0 v1 v2 v3) (hr : some r ≠ row) : Cell4 w' r v0 v1 v2 v3 := by
 have hb := hg.block r h.2.2 hr
 have e : ∀ i, w'.cell? ⟨r, i, none⟩ = w.cell? ⟨r, i, none⟩ := fun i => World.cell?_of_block (a := ⟨r, i, none⟩) hb
 have f : ∀ i, w'.frozen? ⟨r, i, none⟩ = w.frozen? ⟨r, i, none⟩ := fun i => World.frozen?_of_block (a := ⟨r, i, none⟩) hb
 exact ⟨⟨(e 0).trans h.1.1, (e 1).trans h.1.2.1, (e 2).trans h.1.2.2.1, (e 3).trans h.1.2.2.2⟩, ⟨(f 0).trans h.2.1.1, (f 1).trans h.2.1.2.1, (f 2).trans h.2.1.2.2.1, (f 3).trans h.2.1.2.2.2⟩, Nat.lt_of_lt_of_le h.2.2 hg.size⟩
def RetAllocR (w : World) (xs : List (Int × Int)) (q : Rat) (e : Ending) (w' : World) : Prop := Ext w w' ∧ ∃ v, e = .returned (.tuple #[v, .int .i64 (allocE xs q)]) ∧ (allocE xs q ≠ 0 → v = .slice none 0 0) ∧ (allocE xs q = 0 → ∃ P c, v = .slice P xs.length c ∧ xs.length ≤ c ∧ c ≤ maxLen ∧ LRow w' P xs.length (partAt q xs))
set_option maxRecDepth 100000 in
set_option maxHeartbeats 8000000 in
theorem ralloc_any (A : Option Addr) (n c : Nat) (xs : List (Int × Int)) (sa : Bool) (Aa : Option Addr) (na ca : Nat) (ta : Bool) (Ba : Option Addr) (ma da : Nat) (q : Rat) (w : World) (hs : StepsAt w A n xs) (hn : n ≤ maxLen) (h1 : QIs w sa Aa na ca ta Ba ma da q) (l1 : na ≤ 1000) (l2 : ma ≤ 1000) :
  Calls Tryz.prog 87 #[.slice A n c, .agg #[.bool sa, .slice Aa na ca, .bool ta, .slice Ba ma da]] w (RetAllocR w xs q) := by
 have HSZ : Hid (Sz 1000 q) := h1.sz l1 l2 (by omega)
 have HQ := LH (h1.rarg (K := 1000) l1 l2)
 have HS := LH hs
 have HL := LH hs.1
 clear h1 hs
 obtain ⟨i0, hi, hz0, hz1, hz2⟩ := info_parts info_q
 have HI0 := LH (And.intro hi (And.intro hz0 (And.intro hz1 hz2)))
 clear hi hz0 hz1 hz2
 go_enter Tryz.func87, Tryz.ntmps87
 go_wp2_with fail
 have k0 := Cell4.new (w) (w.heap.size) rfl (.bool sa) (.slice Aa na ca) (.bool ta) (.slice Ba ma da) 29
 have hE : Ext w ((w).alloc (.cells #[.bool sa, .slice Aa na ca, .bool ta, .slice Ba ma da] 29)) := (Ext.al Ext.rfl' _)
 generalize (w).alloc (.cells #[.bool sa, .slice Aa na ca, .bool ta, .slice Ba ma da] 29) = w1 at *
 have Ew1 := LH hE
 clear hE
 have Ka := LH k0
 clear k0
 refine (rCurve_any A n c xs w1 (HS.out.below Ew1.out) hn).mono ?_
 rintro e w2 ⟨rfl, hE⟩
 have Ew2 := LH hE
 clear hE
 by_cases h0 : crv xs = 0
 ·have hb : (crv xs != 0) = false := by simp [h0]
  obtain ⟨hl1, hl3, hr⟩ := crv_range h0
  have hn3 : n ≤ 3 := by rw [← HL.out]; exact hl3
  have hn1 : 1 ≤ n := by rw [← HL.out]; exact hl1
  have HAE : Hid (allocE xs q = if q < 0 ∨ ((total xs : Int) : Rat) < q then 1 else 0) := by unfold Hid allocE; rw [if_neg (by simp [h0])]
  have HT := LH (total_bd xs)
  have HR := LH hr
  clear h0 hr hl1 hl3
  generalize crv xs = cv at *
  have HNEG := LH (sign_neg_iff q)
  go_wp2_with fail
  refine wp_region_lexS (C := InX w2.drew []) (by kernel_rfl) (by kernel_rfl) (inX_self _ _) ?_
  have hE : Ext w2 w2.drew := Ext.rfl'.drew
  generalize w2.drew = w3 at *
  have Ew3 := LH hE
  clear hE
  have fa0 := fun z : ExtX w3 [] => z.cell (p := ⟨w.heap.size, 0, none⟩) (Ka.out.ext (ET Ew2.out Ew3.out)).1.1 (by simp)
  have fa1 := fun z : ExtX w3 [] => z.cell (p := ⟨w.heap.size, 1, none⟩) (Ka.out.ext (ET Ew2.out Ew3.out)).1.2.1 (by simp)
  have fa2 := fun z : ExtX w3 [] => z.cell (p := ⟨w.heap.size, 2, none⟩) (Ka.out.ext (ET Ew2.out Ew3.out)).1.2.2.1 (by simp)
  have fa3 := fun z : ExtX w3 [] => z.cell (p := ⟨w.heap.size, 3, none⟩) (Ka.out.ext (ET Ew2.out Ew3.out)).1.2.2.2 (by simp)
  repeat (refine lexAt_still (by rfl) ?_; go_big_quiet_step (fail); refine wpQuiet_nil ?_)
  refine lexAt_move (by rfl) (by kernel_rfl) ?_
  go_wp2_with fail
  refine (rqsign_any sa Aa na ca ta Ba ma da _ _ w3 (HQ.out.ext (ET Ew1.out (ET Ew2.out Ew3.out))) (by omega)).mono ?_
  rintro e w4 ⟨rfl, hE⟩
  have Ew4 := LH hE
  clear hE
  obtain ⟨sg, hsg⟩ : ∃ s, q.num.sign = s := ⟨_, rfl⟩
  rw [hsg] at HNEG ⊢
  clear hsg
  go_wp2_with fail
  refine And.intro (inX_of_ext _ Ew4.out) ?_
  by_cases hneg : q < 0
  ·have hb2 : decide (sg < 0) = true := decide_eq_true (HNEG.out.2 hneg)
   have HE1 : Hid (allocE xs q = 1) := by unfold Hid; rw [HAE.out, if_pos (.inl hneg)]
   repeat (first | (refine lexAt_still (by rfl) ?_; go_big_quiet_step (fail); refine wpQuiet_nil ?_) | (refine lexAt_skip (by kernel_rfl) ?_; simp only [Act.put, List.setIfInBounds_toArray, List.set_cons_succ, List.set_cons_zero]))
   refine lexAt_nil ?_
   clear fa0 fa1 fa2 fa3
   go_wp2_with fail
   go_ret2
   refine ⟨(ET Ew1.out (ET Ew2.out (ET Ew3.out Ew4.out))), _, ret_e HE1.out.symm, fun _ => rfl, fun e => ?_⟩
   rw [HE1.out] at e
   cases e
  ·have hb2 : decide (sg < 0) = false := decide_eq_false (fun e => hneg (HNEG.out.1 e))
   repeat (refine lexAt_still (by rfl) ?_; go_big_quiet_step (fail); refine wpQuiet_nil ?_)
   refine lexAt_move (by rfl) (by kernel_rfl) ?_
   go_wp2_with fail
   refine (rSum_any A n c xs w4 (HS.out.below (ET Ew1.out (ET Ew2.out (ET Ew3.out Ew4.out)))) hn).mono ?_
   rintro e w5 ⟨rfl, hE⟩
   have Ew5 := LH hE
   clear hE
   obtain ⟨T, hT⟩ : ∃ T, total xs = T := ⟨_, rfl⟩
   rw [hT] at HT HAE ⊢
   obtain ⟨hT1, hT2⟩ := HT.out
   clear hT
   go_wp2_with fail
   refine And.intro (inX_of_ext _ (ET Ew4.out Ew5.out)) ?_
   repeat (refine lexAt_still (by rfl) ?_; go_big_quiet_step (fail); refine wpQuiet_nil ?_)
   refine lexAt_move (by rfl) (by kernel_rfl) ?_
   go_wp2_with fail
   refine (rint_any T w5 ⟨by omega, by omega⟩).mono ?_
   rintro e w6 ⟨sT, AT, nT, cT, tT, BT, mT, dT, rfl, hQ, hE⟩
   have Ew6 := LH hE
   clear hE
   have QT := LH hQ
   clear hQ
   go_wp2_with fail
   refine And.intro (inX_of_ext _ (ET Ew4.out (ET Ew5.out Ew6.out))) ?_
   repeat (refine lexAt_still (by rfl) ?_; go_big_quiet_step (fail); refine wpQuiet_nil ?_)
   refine lexAt_move (by rfl) (by kernel_rfl) ?_
   go_wp2_with fail
   refine (rqcmp_any sa Aa na ca ta Ba ma da _ sT AT nT cT tT BT mT dT _ 1000 w6 (HQ.out.ext (ET Ew1.out (ET Ew2.out (ET Ew3.out (ET Ew4.out (ET Ew5.out Ew6.out)))))) (QT.out.rarg (sz_small (z := T) (by omega) (by omega)) (by omega)) (by omega)).mono ?_
   rintro e w7 ⟨rfl, hE⟩
   have Ew7 := LH hE
   clear hE
   have HPOS := LH (cmpQ_pos q (T : Rat))
   generalize cmpQ q (T : Rat) = cq at *
   by_cases hgt : (T : Rat) < q
   ·have hb3 : decide (0 < cq) = true := decide_eq_true (HPOS.out.2 hgt)
    have HE1 : Hid (allocE xs q = 1) := by unfold Hid; rw [HAE.out, if_pos (.inr hgt)]
    go_wp2_with fail
    refine And.intro (inX_of_ext _ (ET Ew4.out (ET Ew5.out (ET Ew6.out Ew7.out)))) ?_
    repeat (refine lexAt_still (by rfl) ?_; go_big_quiet_step (fail); refine wpQuiet_nil ?_)
    refine lexAt_nil ?_
    clear fa0 fa1 fa2 fa3
    go_wp2_with fail
    go_ret2
    refine ⟨(ET Ew1.out (ET Ew2.out (ET Ew3.out (ET Ew4.out (ET Ew5.out (ET Ew6.out Ew7.out)))))), _, ret_e HE1.out.symm, fun _ => rfl, fun e => ?_⟩
    rw [HE1.out] at e
    cases e
   ·have hb3 : decide (0 < cq) = false := decide_eq_false (fun e => hgt (HPOS.out.1 e))
    have HE1 : Hid (allocE xs q = 0) := by unfold Hid; rw [HAE.out, if_neg (by rintro (e | e); exact hneg e; exact hgt e)]
    clear HPOS hgt hneg HNEG HAE
    go_wp2_with fail
    refine And.intro (inX_of_ext _ (ET Ew4.out (ET Ew5.out (ET Ew6.out Ew7.out)))) ?_
    repeat (refine lexAt_still (by rfl) ?_; go_big_quiet_step (fail); refine wpQuiet_nil ?_)
    refine lexAt_nil ?_
    clear fa0 fa1 fa2 fa3
    obtain ⟨⟨xa0, xa1, xa2, xa3⟩, -, za⟩ := (Ka.out.ext (ET Ew2.out (ET Ew3.out (ET Ew4.out (ET Ew5.out (ET Ew6.out Ew7.out))))))
    go_wp2_with fail
    clear xa0 xa1 xa2 xa3 za
    refine (rqleast_any sa Aa na ca ta Ba ma da _ 1000 w7 (HQ.out.ext (ET Ew1.out (ET Ew2.out (ET Ew3.out (ET Ew4.out (ET Ew5.out (ET Ew6.out Ew7.out))))))) (by omega)).mono ?_
    rintro e w8 ⟨sl, Al, nl, cl, tl, Bl, ml, dl, rfl, hQ, hE⟩
    have Ew8 := LH hE
    clear hE
    have Ql := LH hQ
    clear hQ
    go_wp2_with fail
    have k0 := Cell4.new (w8) (w8.heap.size) rfl (.bool sl) (.slice Al nl cl) (.bool tl) (.slice Bl ml dl) 29
    have hE : Ext w8 ((w8).alloc (.cells #[.bool sl, .slice Al nl cl, .bool tl, .slice Bl ml dl] 29)) := (Ext.al Ext.rfl' _)
    generalize (w8).alloc (.cells #[.bool sl, .slice Al nl cl, .bool tl, .slice Bl ml dl] 29) = w9 at *
    have Ew9 := LH hE
    clear hE
    have Kl := LH k0
    clear k0
    have hgl : w8.heap.size < w9.heap.size := Kl.out.2.2
    go_loopw [8, 9] (fun v i wr => ∃ k : Nat, k ≤ n ∧ i = .int .i64 k ∧ Hid (Ext w8 wr ∧ w9.heap.size ≤ wr.heap.size ∧ QGrow wr (w8.heap.size + 1) v k (partAt q xs) ∧ ∃ s A n c t B m d, Cell4 wr w8.heap.size (.bool s) (.slice A n c) (.bool t) (.slice B m d) ∧ QNew wr 0 s A n c t B m d (restR q (xs.take k)) ∧ (AwayO (some w8.heap.size) A n ∧ AwayO (some w8.heap.size) B m) ∧ AwayO v.ownBlock A n ∧ AwayO v.ownBlock B m)) (fun _ i _ => n - (intOf i).toNat)
    case atStart => exact ⟨0, by omega, rfl, Ew9.out, Nat.le_refl _, QGrow.nil _ _ _, _, _, _, _, _, _, _, _, Kl.out, ((Ql.out.ext Ew9.out).nw.base (Nat.zero_le _)), ⟨fun g hg => by injection hg with hg; subst hg; exact (Ql.out.is.away _).1, fun g hg => by injection hg with hg; subst hg; exact (Ql.out.is.away _).2⟩, ⟨fun g hg => (by cases hg), fun g hg => (by cases hg)⟩⟩
    case round =>
     obtain ⟨k, hk, rfl, HI⟩ := hrel
     have HEL := LH HI.out.1
     have hsr := HI.out.2.1
     have HG := LH HI.out.2.2.1
     obtain ⟨sl, Al, nl, cl, tl, Bl, ml, dl, hkl, hql, hal, hbl⟩ := HI.out.2.2.2
     have Kl := LH hkl
     have Ql := LH hql
     have HA := LH hal
     have HB := LH hbl
     clear hkl hql hal hbl HI
     by_cases hlt : k < n
     rotate_left
     ·have hbv : decide ((k : Int) < (n : Int)) = false := by simp; omega
      obtain rfl : k = n := by omega
      obtain ⟨P, cp, hv, hc1, hc2, hLR⟩ := HG.out.lrow
      subst hv
      have HLR := LH (And.intro hc1 (And.intro hc2 hLR))
      clear hc1 hc2 hLR
      go_wp2_with fail
      go_ret2
      refine ⟨(ET Ew1.out (ET Ew2.out (ET Ew3.out (ET Ew4.out (ET Ew5.out (ET Ew6.out (ET Ew7.out (ET Ew8.out HEL.out)))))))), _, ret_e HE1.out.symm, fun e => absurd HE1.out e, fun _ => ?_⟩
      rw [HL.out]
      exact ⟨P, cp, rfl, HLR.out⟩
     ·have hbv : decide ((k : Int) < (n : Int)) = true := by simp; omega
      have hbv2 : decide (k < n) = true := by simp; omega
      obtain ⟨b, off, rfl, hlb, hcell⟩ := HS.out.2 (by omega)
      obtain ⟨c1', c2'⟩ := hcell k hlt
      have HC1 := LH c1'
      have hmem : xs.getD k (0, 0) ∈ xs := by simp [List.getD, show k < xs.length by rw [HL.out]; exact hlt]
      obtain ⟨r1, r2, -, -⟩ := HR.out _ hmem
      have HSU := LH (rest_succ (q := q) (xs := xs) (k := k) (by rw [HL.out]; exact hlt))
      have HPA : Hid (partAt q xs k = minQ (restR q (xs.take k)) (((xs.getD k (0, 0)).1 : Int) : Rat)) := rfl
      have h8 := pow2_le (show k ≤ 3 by omega)
      have HZR : Hid (Sz 10000 (restR q (xs.take k)) ∧ Sz 10000 (partAt q xs k)) := ⟨(sz_rest HSZ.out HR.out k (by rw [HL.out]; omega)).mono (by omega), (sz_part HSZ.out HR.out k (by rw [HL.out]; exact hlt)).mono (by omega)⟩
      generalize (xs.getD k (0, 0)).1 = qy at *
      clear hmem c1' c2' hcell h8
      have hz0 : (0 : Int) ≤ (k : Int) := by omega
      have hzn : (k : Int) < (n : Int) := by omega
      go_wp2_with fail
      refine wp_region_havS [8] [0, 1, 2, 3, 4, 5, 6, 7] [9] (fun _ => .cells #[.bool false, .slice none 0 0, .bool false, .slice none 0 0] 29) (by kernel_rfl) (by kernel_rfl) ?_ ?_
      ·intro f hf
       simp only [List.mem_cons, List.not_mem_nil, or_false] at hf
       rcases hf with rfl
       all_goals exact makes_q (by rfl) rfl
      have hE : Ext wr wr.drew := Ext.rfl'.drew
      generalize wr.drew = w10 at *
      have Ew10 := LH hE
      clear hE
      have fl0 := fun z : ExtX w10 [] => z.cell (p := ⟨w8.heap.size, 0, none⟩) (Kl.out.ext Ew10.out).1.1 (by simp)
      have fl1 := fun z : ExtX w10 [] => z.cell (p := ⟨w8.heap.size, 1, none⟩) (Kl.out.ext Ew10.out).1.2.1 (by simp)
      have fl2 := fun z : ExtX w10 [] => z.cell (p := ⟨w8.heap.size, 2, none⟩) (Kl.out.ext Ew10.out).1.2.2.1 (by simp)
      have fl3 := fun z : ExtX w10 [] => z.cell (p := ⟨w8.heap.size, 3, none⟩) (Kl.out.ext Ew10.out).1.2.2.2 (by simp)
      have x4 := fun z : ExtX w10 [] => z.cell (p := ⟨b, off + k * 2, none⟩) (Ext.cellOf (ET Ew1.out (ET Ew2.out (ET Ew3.out (ET Ew4.out (ET Ew5.out (ET Ew6.out (ET Ew7.out (ET Ew8.out (ET HEL.out Ew10.out))))))))) HC1.out) (by simp)
      intro w11 hE
      have Ew11 := LH hE
      clear hE
      repeat (refine havAt_still (by rfl) (by rfl) ?_; go_big_quiet_step (fail); refine wpQuiet_nil ?_)
      refine havAt_move (by rfl) (by rfl) (by kernel_rfl) ?_
      go_wp2_with fail
      refine (rint_any qy w11 ⟨by omega, by omega⟩).mono ?_
      rintro e w12 ⟨sy, Ay, ny, cy, ty, By, my, dy, rfl, hQ, hE⟩
      have Ew12 := LH hE
      clear hE
      have Qy := LH hQ
      clear hQ
      go_wp2_with fail
      refine And.intro Ew12.out (fun w13 hE => ?_)
      have Ew13 := LH hE
      clear hE
      repeat (refine havAt_still (by rfl) (by rfl) ?_; go_big_quiet_step (fail); refine wpQuiet_nil ?_)
      refine havAt_move (by rfl) (by rfl) (by kernel_rfl) ?_
      go_wp2_with fail
      refine (rqmin_any sl Al nl cl tl Bl ml dl _ sy Ay ny cy ty By my dy _ 10000 w13 ((Ql.out.ext (ET Ew10.out (ET Ew11.out (ET Ew12.out Ew13.out)))).rarg HZR.out.1 (by omega)) ((Qy.out.ext Ew13.out).rarg (sz_small (z := qy) (by omega) (by omega)) (by omega)) (by omega)).mono ?_
      rintro e w14 ⟨sp, Ap, np, cp, tp, Bp, mp, dp, rfl, hQ, hE⟩
      have Ew14 := LH hE
      clear hE
      rw [← HPA.out] at hQ
      have Qp := LH hQ
      clear hQ
      go_wp2_with fail
      refine And.intro Ew14.out (fun w15 hE => ?_)
      have Ew15 := LH hE
      clear hE
      repeat (refine havAt_still (by rfl) (by rfl) ?_; go_big_quiet_step (fail); refine wpQuiet_nil ?_)
      refine havAt_end ?_
      intro gs hgs hne
      have hpx := hgs 8 (by simp)
      change IdxAt _ _ _ _ _ _ (Act.put _ (some 10) (.pointer (some ⟨gs 8, 0, none⟩))) _
      generalize gs 8 = gx at *
      clear hgs hne
      simp only [Act.put, List.setIfInBounds_toArray, List.set_cons_succ, List.set_cons_zero]
      have Px := LH hpx
      have Kx := LH (Cell4.of_blk hpx.2.1)
      clear hpx
      repeat (refine idxAt_still (by rfl) (by rfl) ?_; go_big_quiet_step (fail); refine wpQuiet_nil ?_)
      obtain ⟨⟨o0, o1, o2, o3⟩, ⟨q0, q1, q2, q3⟩, ol⟩ := Kx.out
      refine idxAt_move (by rfl) (by rfl) (by kernel_rfl) ?_
      go_wp2_with fail
      refine And.intro (inX_put (p := ⟨gx, 3, none⟩) (inX_put (p := ⟨gx, 2, none⟩) (inX_put (p := ⟨gx, 1, none⟩) (inX_put (p := ⟨gx, 0, none⟩) (inX_of_ext _ (ET Ew11.out (ET Ew12.out (ET Ew13.out (ET Ew14.out Ew15.out))))) (.inr Px.out.1) _) (.inr Px.out.1) _) (.inr Px.out.1) _) (.inr Px.out.1) _) ?_
      clear o0 o1 o2 o3 q0 q1 q2 q3 ol
      have Kx_1 := LH (Kx.out.put4 (.bool sp) (.slice Ap np cp) (.bool tp) (.slice Bp mp dp))
      have NJ1 := LH (ext_put4 (ET Ew11.out (ET Ew12.out (ET Ew13.out (ET Ew14.out Ew15.out)))) (g := gx) Px.out.1 0 (.bool sp) (.slice Ap np cp) (.bool tp) (.slice Bp mp dp))
      have NZ1 : Hid (w15.heap.size ≤ (put4 w15 (gx) 0 (.bool sp) (.slice Ap np cp) (.bool tp) (.slice Bp mp dp)).heap.size) := by unfold Hid; rw [put4_size]; exact Nat.le_refl _
      have Qp_1 := LH ((Qp.out.ext Ew15.out).put4A (g := gx) (Qp.out.span (Px.out.2.2 (w13.heap.size, w14.heap.size) (by simp))) 0 (.bool sp) (.slice Ap np cp) (.bool tp) (.slice Bp mp dp))
      unfold put4 at Kx_1 NJ1 NZ1 Qp_1
      simp only [Nat.zero_add] at Kx_1 NJ1 NZ1 Qp_1
      generalize ((((w15.setCell ⟨gx, 0, none⟩ (.bool sp)).setCell ⟨gx, 1, none⟩ (.slice Ap np cp)).setCell ⟨gx, 2, none⟩ (.bool tp)).setCell ⟨gx, 3, none⟩ (.slice Bp mp dp)) = w16 at *
      repeat (refine idxAt_still (by rfl) (by rfl) ?_; go_big_quiet_step (fail); refine wpQuiet_nil ?_)
      refine idxAt_nil ?_
      clear fl0 fl1 fl2 fl3 x4
      have hEa : Ext w16 (w16.alloc (.cells #[.bool sp, .slice Ap np cp, .bool tp, .slice Bp mp dp] 29)) := Ext.al Ext.rfl' _
      have HEa := LH (ET (ET HEL.out (ET Ew10.out NJ1.out)) hEa)
      have HGa := LH ((HG.out.ext (ET Ew10.out NJ1.out)).ext hEa)
      have KLa := LH ((Kl.out.ext (ET Ew10.out NJ1.out)).ext hEa)
      have QLa := LH ((Ql.out.ext (ET Ew10.out NJ1.out)).ext hEa)
      have KXa := LH (Kx_1.out.ext hEa)
      have hpb : w8.heap.size + 1 ≤ w13.heap.size := Nat.le_trans hgl (Nat.le_trans hsr (Nat.le_trans Ew10.out.size (Nat.le_trans Ew11.out.size (Nat.le_trans Ew12.out.size Ew13.out.size))))
      have QPa : Hid (QNew (w16.alloc (.cells #[.bool sp, .slice Ap np cp, .bool tp, .slice Bp mp dp] 29)) (w8.heap.size + 1) sp Ap np cp tp Bp mp dp (partAt q xs k)) := (Qp_1.out.nw.base hpb).ext hEa
      have HAP : Hid (AwayO u8.ownBlock Ap np ∧ AwayO u8.ownBlock Bp mp) := Qp_1.out.nw.awayO (fun g hg => Nat.lt_of_lt_of_le (HG.out.lt hg).1 (Nat.le_trans Ew10.out.size (Nat.le_trans Ew11.out.size (Nat.le_trans Ew12.out.size Ew13.out.size))))
      have hxg : (w8.heap.size + 1) ≤ gx := Nat.le_trans hgl (Nat.le_trans hsr (Nat.le_trans Ew10.out.size Px.out.1))
      have hxo : ∀ g, u8.ownBlock = some g → g < gx := fun g hg => Nat.lt_of_lt_of_le (HG.out.lt hg).1 (Nat.le_trans Ew10.out.size Px.out.1)
      have HXO := LH hxo
      clear hxo
      have HNW := LH (World.news_of_block (cs := #[.bool sp, .slice Ap np cp, .bool tp, .slice Bp mp dp]) (t := 29) (fr := (0, 0)) (heap_alloc_new w16 (.cells #[.bool sp, .slice Ap np cp, .bool tp, .slice Bp mp dp] 29)))
      have hw1s : (w8.heap.size + 1) ≤ (w16.alloc (.cells #[.bool sp, .slice Ap np cp, .bool tp, .slice Bp mp dp] 29)).heap.size := by have := KXa.out.2.2; omega
      obtain ⟨cs, hown0, hrows⟩ := HGa.out
      have HOW := LH hown0
      have HRS := LH hrows
      clear hown0 hrows hEa
      obtain ⟨⟨xx0, xx1, xx2, xx3⟩, -, zx⟩ := Kx_1.out
      go_wp2_with (
       at_builtin
       refine wpList_append_atW _ rfl (.tmp 43) (.tmp 45) 30 rfl (w8.heap.size + 1) 29 i0 _ 4 64 Tryz.underlying30 HI0.out.1 HI0.out.2.1 HI0.out.2.2.1 HI0.out.2.2.2 rfl (by omega) u8 k _ rfl HOW.out ⟨w16.heap.size, 0, none⟩ 1 1 [.bool sp, .slice Ap np cp, .bool tp, .slice Bp mp dp] rfl rfl HNW.out (by simp [Value.oneCell']) (.inr (by omega)) (by simp [maxLen]; omega) (by omega) hw1s ?_
       intro g cap w17 hown hgr hgg
       have HN := LH (QGrow.push HOW.out HRS.out QPa.out HAP.out hown hgr hgg)
       have EG := LH (ext_grownW HEa.out hgr (fun g hg => by have := (HG.out.lt hg).2; omega))
       have KG := LH (KXa.out.grownR hgr (fun he => by have := HXO.out gx he.symm; omega))
       have KLG := LH (KLa.out.grownR hgr (fun he => by have := (HG.out.lt he.symm).2; omega))
       have QPG := LH (QPa.out.grown hgr HAP.out)
       have QLG := LH (QLa.out.grown hgr HB.out)
       have hgsz : g < w17.heap.size := (HN.out.lt (by simp [Value.ownBlock])).1
       have hszg : w9.heap.size ≤ w17.heap.size := Nat.le_trans (Nat.le_trans hsr (Nat.le_trans Ew10.out.size (Nat.le_trans Ew11.out.size (Nat.le_trans Ew12.out.size (Nat.le_trans Ew13.out.size (Nat.le_trans Ew14.out.size (Nat.le_trans Ew15.out.size NZ1.out))))))) (Nat.le_trans (Nat.le_trans (by simp) (Nat.le_refl (w16.alloc (.cells #[.bool sp, .slice Ap np cp, .bool tp, .slice Bp mp dp] 29)).heap.size)) hgr.size)
       clear hown hgr hgg
       obtain ⟨⟨xl0, xl1, xl2, xl3⟩, -, zl⟩ := KLG.out
       obtain ⟨⟨xx0, xx1, xx2, xx3⟩, -, zx⟩ := KG.out)
      clear xx0 xx1 xx2 xx3 zx HOW HRS HNW hw1s HGa KLa QLa KXa QPa HEa HAP
      refine (rqsub_any sl Al nl cl tl Bl ml dl _ sp Ap np cp tp Bp mp dp _ 10000 w17 (QLG.out.rarg HZR.out.1 (by omega)) (QPG.out.rarg HZR.out.2 (by omega)) (by omega)).mono ?_
      rintro e w18 ⟨sn2, An2, nn2, cn2, tn2, Bn2, mn2, dn2, rfl, hQ, hE⟩
      have Ew18 := LH hE
      clear hE
      rw [← HSU.out] at hQ
      have Qn2 := LH hQ
      clear hQ
      clear xl0 xl1 xl2 xl3 zl xx0 xx1 xx2 xx3 zx
      obtain ⟨⟨xl0, xl1, xl2, xl3⟩, ⟨yl0, yl1, yl2, yl3⟩, zl⟩ := (KLG.out.ext Ew18.out)
      go_wp2_with fail
      have HG2 := LH ((HN.out.ext Ew18.out).put4 (g := w8.heap.size) (Nat.lt_succ_self _) 0 (.bool sn2) (.slice An2 nn2 cn2) (.bool tn2) (.slice Bn2 mn2 dn2))
      have HE2 := LH (ext_put4 (ET EG.out Ew18.out) (g := w8.heap.size) (Nat.le_refl _) 0 (.bool sn2) (.slice An2 nn2 cn2) (.bool tn2) (.slice Bn2 mn2 dn2))
      have HK2 := LH ((KLG.out.ext Ew18.out).put4 (.bool sn2) (.slice An2 nn2 cn2) (.bool tn2) (.slice Bn2 mn2 dn2))
      have hgb : w8.heap.size < w17.heap.size := Nat.lt_of_lt_of_le KLG.out.2.2 (Nat.le_refl _)
      have HQ2 : Hid (QNew (put4 w18 w8.heap.size 0 (.bool sn2) (.slice An2 nn2 cn2) (.bool tn2) (.slice Bn2 mn2 dn2)) 0 sn2 An2 nn2 cn2 tn2 Bn2 mn2 dn2 (restR q (xs.take (k + 1)))) := (((Qn2.out.nw).put4 (g := w8.heap.size) hgb 0 (.bool sn2) (.slice An2 nn2 cn2) (.bool tn2) (.slice Bn2 mn2 dn2)).base (Nat.zero_le _))
      have HA2 : Hid ((AwayO (some w8.heap.size) An2 nn2 ∧ AwayO (some w8.heap.size) Bn2 mn2) ∧ AwayO (some g) An2 nn2 ∧ AwayO (some g) Bn2 mn2) := ⟨Qn2.out.nw.awayO (fun g' hg => by injection hg with hg; omega), Qn2.out.nw.awayO (fun g' hg => by injection hg with hg; subst hg; exact Nat.lt_of_lt_of_le hgsz (Nat.le_refl _))⟩
      have HZ2 : Hid (w9.heap.size ≤ (put4 w18 w8.heap.size 0 (.bool sn2) (.slice An2 nn2 cn2) (.bool tn2) (.slice Bn2 mn2 dn2)).heap.size) := by unfold Hid; rw [put4_size]; exact Nat.le_trans hszg Ew18.out.size
      clear xl0 xl1 xl2 xl3 yl0 yl1 yl2 yl3 zl
      unfold put4 at HG2 HE2 HK2 HQ2 HZ2
      simp only [Nat.zero_add] at HG2 HE2 HK2 HQ2 HZ2
      go_roundw
      case rel => exact ⟨k + 1, by omega, by go_num, HE2.out, HZ2.out, HG2.out, _, _, _, _, _, _, _, _, HK2.out, HQ2.out, HA2.out.1, HA2.out.2⟩
      case measure => simp [intOf]; omega
 ·have hb : (crv xs != 0) = true := by simp [h0]
  have HE1 : Hid (allocE xs q = crv xs) := by unfold Hid allocE; rw [if_pos h0]
  have H0 := LH h0
  clear h0
  generalize crv xs = cv at *
  go_wp2_with fail
  go_ret2
  refine ⟨(ET Ew1.out Ew2.out), _, ret_e HE1.out.symm, fun _ => rfl, fun e => ?_⟩
  rw [HE1.out] at e
  exact absurd e H0.out
set_option maxRecDepth 100000 in
set_option maxHeartbeats 8000000 in
theorem rcost_any (A : Option Addr) (n c : Nat) (xs : List (Int × Int)) (sa : Bool) (Aa : Option Addr) (na ca : Nat) (ta : Bool) (Ba : Option Addr) (ma da : Nat) (q : Rat) (w : World) (hs : StepsAt w A n xs) (hn : n ≤ maxLen) (h1 : QIs w sa Aa na ca ta Ba ma da q) (l1 : na ≤ 1000) (l2 : ma ≤ 1000) :
  Calls Tryz.prog 57 #[.slice A n c, .agg #[.bool sa, .slice Aa na ca, .bool ta, .slice Ba ma da]] w (RetCost w xs q) := by
 have HSZ : Hid (Sz 1000 q) := h1.sz l1 l2 (by omega)
 have HQ := LH h1
 have HS := LH hs
 have HL := LH hs.1
 clear h1 hs
 go_enter Tryz.func57, Tryz.ntmps57
 go_wp2_with fail
 have k0 := Cell4.new (w) (w.heap.size) rfl (.bool sa) (.slice Aa na ca) (.bool ta) (.slice Ba ma da) 29
 have k1 := Cell4.new ((w).alloc (.cells #[.bool sa, .slice Aa na ca, .bool ta, .slice Ba ma da] 29)) (w.heap.size + 1) (by simp) (.bool false) (.slice none 0 0) (.bool false) (.slice none 0 0) 29
 have hE : Ext w (((w).alloc (.cells #[.bool sa, .slice Aa na ca, .bool ta, .slice Ba ma da] 29)).alloc (.cells #[.bool false, .slice none 0 0, .bool false, .slice none 0 0] 29)) := (Ext.al (Ext.al Ext.rfl' _) _)
 have k0 := k0.ext (show Ext ((w).alloc (.cells #[.bool sa, .slice Aa na ca, .bool ta, .slice Ba ma da] 29)) (((w).alloc (.cells #[.bool sa, .slice Aa na ca, .bool ta, .slice Ba ma da] 29)).alloc (.cells #[.bool false, .slice none 0 0, .bool false, .slice none 0 0] 29)) from (Ext.al Ext.rfl' _))
 generalize ((w).alloc (.cells #[.bool sa, .slice Aa na ca, .bool ta, .slice Ba ma da] 29)).alloc (.cells #[.bool false, .slice none 0 0, .bool false, .slice none 0 0] 29) = w1 at *
 have Ew1 := LH hE
 clear hE
 have Ka := LH k0
 clear k0
 have Kr := LH k1
 clear k1
 refine (ralloc_any A n c xs sa Aa na ca ta Ba ma da q w1 (HS.out.below Ew1.out) hn (HQ.out.ext Ew1.out) l1 l2).mono ?_
 rintro e w2 ⟨hE, v, rfl, hx1, hx2⟩
 have Ew2 := LH hE
 clear hE
 have HX1 := LH hx1
 have HX2 := LH hx2
 clear hx1 hx2
 by_cases h0 : allocE xs q = 0
 ·obtain ⟨P, cp, rfl, hc1, hc2, hLR⟩ := HX2.out h0
  obtain ⟨hl1, hl3, hr⟩ := crv_range (allocE_range h0)
  have hn3 : n ≤ 3 := by rw [← HL.out]; exact hl3
  have HLR := LH hLR
  have HR := LH hr
  have HV : Hid (costV xs q = costTo q xs n) := by unfold Hid costV; rw [if_pos h0, HL.out]
  have H0 := LH h0
  rw [h0]
  rw [HL.out] at HLR ⊢
  clear h0 hc1 hc2 hLR hl1 hl3 hr HX1 HX2
  go_wp2_with fail
  refine (rint_any 0 w2 ⟨by omega, by omega⟩).mono ?_
  rintro e w3 ⟨ss, As, ns, cs, ts, Bs, ms, ds, rfl, hQ, hE⟩
  have Ew3 := LH hE
  clear hE
  rw [Rat.intCast_zero] at hQ
  have Qs := LH hQ
  clear hQ
  go_wp2_with fail
  have k0 := Cell4.new (w3) (w3.heap.size) rfl (.bool ss) (.slice As ns cs) (.bool ts) (.slice Bs ms ds) 29
  have hE : Ext w3 ((w3).alloc (.cells #[.bool ss, .slice As ns cs, .bool ts, .slice Bs ms ds] 29)) := (Ext.al Ext.rfl' _)
  generalize (w3).alloc (.cells #[.bool ss, .slice As ns cs, .bool ts, .slice Bs ms ds] 29) = w4 at *
  have Ew4 := LH hE
  clear hE
  have Ks := LH k0
  clear k0
  have hgl : w3.heap.size < w4.heap.size := Ks.out.2.2
  have Qs0 : Hid (QCan w4 w2.heap.size ss As ns cs ts Bs ms ds 0) := (Qs.out.ext Ew4.out)
  go_loopw [9] (fun i wr => ∃ k : Nat, k ≤ n ∧ i = .int .i64 k ∧ Hid (Ext w3 wr ∧ w4.heap.size ≤ wr.heap.size ∧ ∃ s A n c t B m d, Cell4 wr w3.heap.size (.bool s) (.slice A n c) (.bool t) (.slice B m d) ∧ QCan wr w2.heap.size s A n c t B m d (costTo q xs k) ∧ Away w3.heap.size (w3.heap.size + 1) A n ∧ Away w3.heap.size (w3.heap.size + 1) B m)) (fun i _ => n - (intOf i).toNat)
  case atStart => exact ⟨0, by omega, rfl, Ew4.out, Nat.le_refl _, _, _, _, _, _, _, _, _, Ks.out, Qs0.out, (Qs.out.is.away _).1, (Qs.out.is.away _).2⟩
  case round =>
   obtain ⟨k, hk, rfl, HI⟩ := hrel
   have HEL := LH HI.out.1
   have hsr := HI.out.2.1
   obtain ⟨ss, As, ns, cs, ts, Bs, ms, ds, hks, hqs, ha1, ha2⟩ := HI.out.2.2
   have Ks := LH hks
   have Qs := LH hqs
   have HA := LH (And.intro ha1 ha2)
   clear hks hqs HI Qs0 ha1 ha2
   by_cases hlt : k < n
   rotate_left
   ·have hbv : decide ((k : Int) < (n : Int)) = false := by simp; omega
    obtain rfl : k = n := by omega
    obtain ⟨⟨xs0, xs1, xs2, xs3⟩, -, zs⟩ := Ks.out
    obtain ⟨⟨e0, e1, e2, e3⟩, ⟨f0, f1, f2, f3⟩, el⟩ := (Kr.out.ext (ET Ew2.out (ET Ew3.out HEL.out)))
    go_wp2_with fail
    refine bodyPost_ret (v := .tuple #[.agg #[.bool ss, .slice As ns cs, .bool ts, .slice Bs ms ds], .int .i64 0]) (by simp [results, Tryz.results57, go_sem, e0, e1, e2, e3]) rfl ?_
    exact ⟨_, _, _, _, _, _, _, _, ret_qe H0.out.symm, retQ_fill (by omega) (Nat.lt_of_lt_of_le Kr.out.2.2 Ew2.out.size) (by rw [HV.out]; exact Qs.out) (ET Ew1.out (ET Ew2.out (ET Ew3.out HEL.out))) _ _ _ _⟩
   ·have hbv : decide ((k : Int) < (n : Int)) = true := by simp; omega
    have hbv2 : decide (k < n) = true := by simp; omega
    obtain ⟨b, off, rfl, hlb, hcell⟩ := HS.out.2 (by omega)
    obtain ⟨c1', c2'⟩ := hcell k hlt
    have HC1 := LH c2'
    have hmem : xs.getD k (0, 0) ∈ xs := by simp [List.getD, show k < xs.length by rw [HL.out]; exact hlt]
    obtain ⟨-, -, r1, r2⟩ := HR.out _ hmem
    have HCS : Hid (costTo q xs (k + 1) = costTo q xs k + partAt q xs k * ((xs.getD k (0, 0)).2 : Int)) := rfl
    have h8 := pow2_le (show k ≤ 3 by omega)
    have HZR : Hid (Sz 10000 (partAt q xs k) ∧ Sz 10000 (costTo q xs k)) := ⟨(sz_part HSZ.out HR.out k (by rw [HL.out]; exact hlt)).mono (by omega), (sz_cost HSZ.out HR.out k (by rw [HL.out]; omega)).mono (by omega)⟩
    obtain ⟨gx, ox, sx, Ax, nx, cx, tx, Bx, mx, dx, rfl, hgx, p0, p1, p2, p3, hqx⟩ := HLR.out k hlt
    have HP0 := LH p0
    have HP1 := LH p1
    have HP2 := LH p2
    have HP3 := LH p3
    have Qx := LH hqx
    generalize (xs.getD k (0, 0)).2 = py at *
    generalize partAt q xs k = pk at *
    generalize costTo q xs k = ck at *
    clear hmem c1' c2' hcell h8 p0 p1 p2 p3 hqx
    have hz0 : (0 : Int) ≤ (k : Int) := by omega
    have hzn : (k : Int) < (n : Int) := by omega
    go_wp2_with fail
    refine wp_region_lexS (C := InX wr.drew []) (by kernel_rfl) (by kernel_rfl) (inX_self _ _) ?_
    have hE : Ext wr wr.drew := Ext.rfl'.drew
    generalize wr.drew = w5 at *
    have Ew5 := LH hE
    clear hE
    have fs0 := fun z : ExtX w5 [] => z.cell (p := ⟨w3.heap.size, 0, none⟩) (Ks.out.ext Ew5.out).1.1 (by simp)
    have fs1 := fun z : ExtX w5 [] => z.cell (p := ⟨w3.heap.size, 1, none⟩) (Ks.out.ext Ew5.out).1.2.1 (by simp)
    have fs2 := fun z : ExtX w5 [] => z.cell (p := ⟨w3.heap.size, 2, none⟩) (Ks.out.ext Ew5.out).1.2.2.1 (by simp)
    have fs3 := fun z : ExtX w5 [] => z.cell (p := ⟨w3.heap.size, 3, none⟩) (Ks.out.ext Ew5.out).1.2.2.2 (by simp)
    have x4 := fun z : ExtX w5 [] => z.cell (p := ⟨b, off + k * 2 + 1, none⟩) (Ext.cellOf (ET Ew1.out (ET Ew2.out (ET Ew3.out (ET HEL.out Ew5.out)))) HC1.out) (by simp)
    have p0 := fun z : ExtX w5 [] => z.cell (p := ⟨gx, ox + k * 4, none⟩) (Ext.cellOf (ET Ew3.out (ET HEL.out Ew5.out)) HP0.out) (by simp)
    have p1 := fun z : ExtX w5 [] => z.cell (p := ⟨gx, ox + k * 4 + 1, none⟩) (Ext.cellOf (ET Ew3.out (ET HEL.out Ew5.out)) HP1.out) (by simp)
    have p2 := fun z : ExtX w5 [] => z.cell (p := ⟨gx, ox + k * 4 + 2, none⟩) (Ext.cellOf (ET Ew3.out (ET HEL.out Ew5.out)) HP2.out) (by simp)
    have p3 := fun z : ExtX w5 [] => z.cell (p := ⟨gx, ox + k * 4 + 3, none⟩) (Ext.cellOf (ET Ew3.out (ET HEL.out Ew5.out)) HP3.out) (by simp)
    repeat (refine lexAt_still (by rfl) ?_; go_big_quiet_step (fail); refine wpQuiet_nil ?_)
    refine lexAt_move (by rfl) (by kernel_rfl) ?_
    go_wp2_with fail
    refine (rint_any py w5 ⟨by omega, by omega⟩).mono ?_
    rintro e w6 ⟨sy, Ay, ny, cy, ty, By, my, dy, rfl, hQ, hE⟩
    have Ew6 := LH hE
    clear hE
    have Qy := LH hQ
    clear hQ
    go_wp2_with fail
    refine And.intro (inX_of_ext _ Ew6.out) ?_
    repeat (refine lexAt_still (by rfl) ?_; go_big_quiet_step (fail); refine wpQuiet_nil ?_)
    refine lexAt_move (by rfl) (by kernel_rfl) ?_
    go_wp2_with fail
    refine (rqmul_any sx Ax nx cx tx Bx mx dx _ sy Ay ny cy ty By my dy _ 10000 w6 ((Qx.out.ext (ET Ew3.out (ET HEL.out (ET Ew5.out Ew6.out)))).rarg HZR.out.1 (by omega)) (Qy.out.rarg (sz_small (z := py) (by omega) (by omega)) (by omega)) (by omega)).mono ?_
    rintro e w7 ⟨sp, Ap, np, cp, tp, Bp, mp, dp, rfl, hQ, hE⟩
    have Ew7 := LH hE
    clear hE
    have Qp := LH hQ
    clear hQ
    go_wp2_with fail
    refine And.intro (inX_of_ext _ (ET Ew6.out Ew7.out)) ?_
    repeat (refine lexAt_still (by rfl) ?_; go_big_quiet_step (fail); refine wpQuiet_nil ?_)
    refine lexAt_move (by rfl) (by kernel_rfl) ?_
    go_wp2_with fail
    refine (rqadd_any ss As ns cs ts Bs ms ds _ sp Ap np cp tp Bp mp dp _ 20000 w7 ((Qs.out.ext (ET Ew5.out (ET Ew6.out Ew7.out))).rarg HZR.out.2 (by omega)) (Qp.out.rarg (HZR.out.1.mul (sz_small (z := py) (by omega) (by omega))) (by omega)) (by omega)).mono ?_
    rintro e w8 ⟨sv, Av, nv, cv, tv, Bv, mv, dv, rfl, hQ, hE⟩
    have Ew8 := LH hE
    clear hE
    rw [← HCS.out] at hQ
    have Qv := LH hQ
    clear hQ
    have HXe := LH (inX_of_ext [] (ET Ew6.out (ET Ew7.out Ew8.out)))
    clear fs0 fs1 fs2 fs3 x4 p0 p1 p2 p3
    obtain ⟨⟨o0, o1, o2, o3⟩, ⟨q0, q1, q2, q3⟩, ol⟩ := (Ks.out.ext (ET Ew5.out (ET Ew6.out (ET Ew7.out Ew8.out))))
    go_wp2_with fail
    refine And.intro HXe.out ?_
    refine lexAt_last (by rfl) (by kernel_rfl) (by kernel_rfl) ?_
    go_wp2_with fail
    refine And.intro trivial (lexAt_nil ?_)
    clear o0 o1 o2 o3 q0 q1 q2 q3 ol HXe
    have Ks_1 := LH ((Ks.out.ext (ET Ew5.out (ET Ew6.out (ET Ew7.out Ew8.out)))).put4 (.bool sv) (.slice Av nv cv) (.bool tv) (.slice Bv mv dv))
    have NJ1 := LH (ext_put4 (ET HEL.out (ET Ew5.out (ET Ew6.out (ET Ew7.out Ew8.out)))) (g := w3.heap.size) (Nat.le_refl _) 0 (.bool sv) (.slice Av nv cv) (.bool tv) (.slice Bv mv dv))
    have NZ1 : Hid (w8.heap.size ≤ (put4 w8 (w3.heap.size) 0 (.bool sv) (.slice Av nv cv) (.bool tv) (.slice Bv mv dv)).heap.size) := by unfold Hid; rw [put4_size]; exact Nat.le_refl _
    have Qv_1 := LH (Qv.out.put4A (g := w3.heap.size) (Qv.out.span (.inl (Nat.lt_of_lt_of_le Ks.out.2.2 (Nat.le_trans Ew5.out.size (Nat.le_trans Ew6.out.size Ew7.out.size))))) 0 (.bool sv) (.slice Av nv cv) (.bool tv) (.slice Bv mv dv))
    unfold put4 at Ks_1 NJ1 NZ1 Qv_1
    simp only [Nat.zero_add] at Ks_1 NJ1 NZ1 Qv_1
    generalize ((((w8.setCell ⟨w3.heap.size, 0, none⟩ (.bool sv)).setCell ⟨w3.heap.size, 1, none⟩ (.slice Av nv cv)).setCell ⟨w3.heap.size, 2, none⟩ (.bool tv)).setCell ⟨w3.heap.size, 3, none⟩ (.slice Bv mv dv)) = w9 at *
    have hle := (Nat.le_trans Ew3.out.size (Nat.le_trans HEL.out.size (Nat.le_trans Ew5.out.size (Nat.le_trans Ew6.out.size Ew7.out.size))))
    have HAV : Hid (Away w3.heap.size (w3.heap.size + 1) Av nv ∧ Away w3.heap.size (w3.heap.size + 1) Bv mv) := (Qv.out.span (.inl (Nat.lt_of_lt_of_le Ks.out.2.2 (Nat.le_trans Ew5.out.size (Nat.le_trans Ew6.out.size Ew7.out.size)))))
    have HQV := LH (Qv_1.out.base hle)
    have HSR : Hid (w4.heap.size ≤ w9.heap.size) := Nat.le_trans hsr (Nat.le_trans Ew5.out.size (Nat.le_trans Ew6.out.size (Nat.le_trans Ew7.out.size (Nat.le_trans Ew8.out.size NZ1.out))))
    go_wp2_with fail
    go_roundw
    case rel => exact ⟨k + 1, by omega, by go_num, NJ1.out, HSR.out, _, _, _, _, _, _, _, _, Ks_1.out, HQV.out, HAV.out.1, HAV.out.2⟩
    case measure => simp [intOf]; omega
 ·obtain rfl := HX1.out h0
  have HV : Hid (costV xs q = 0) := by unfold Hid costV; rw [if_neg h0]
  clear h0 HX1 HX2
  go_wp2_with fail
  refine (rint_any 0 w2 ⟨by omega, by omega⟩).mono ?_
  rintro e w10 ⟨ss, As, ns, cs, ts, Bs, ms, ds, rfl, hQ, hE⟩
  have Ew10 := LH hE
  clear hE
  rw [Rat.intCast_zero] at hQ
  have Qs := LH hQ
  clear hQ
  go_wp2_with fail
  have k0 := Cell4.new (w10) (w10.heap.size) rfl (.bool ss) (.slice As ns cs) (.bool ts) (.slice Bs ms ds) 29
  have hE : Ext w10 ((w10).alloc (.cells #[.bool ss, .slice As ns cs, .bool ts, .slice Bs ms ds] 29)) := (Ext.al Ext.rfl' _)
  generalize (w10).alloc (.cells #[.bool ss, .slice As ns cs, .bool ts, .slice Bs ms ds] 29) = w11 at *
  have Ew11 := LH hE
  clear hE
  have Ks := LH k0
  clear k0
  go_loopw [9] (fun i wr => i = .int .i64 0 ∧ Hid (wr = w11)) (fun i _ => 0)
  case atStart => exact ⟨rfl, rfl⟩
  case round =>
   obtain ⟨rfl, hw⟩ := hrel
   have hw' : wr = w11 := hw
   subst hw'
   clear hw
   have HQS := LH (Qs.out.ext Ew11.out)
   obtain ⟨⟨xs0, xs1, xs2, xs3⟩, -, zs⟩ := Ks.out
   obtain ⟨⟨e0, e1, e2, e3⟩, ⟨f0, f1, f2, f3⟩, el⟩ := (Kr.out.ext (ET Ew2.out (ET Ew10.out Ew11.out)))
   go_wp2_with fail
   refine bodyPost_ret (v := .tuple #[.agg #[.bool ss, .slice As ns cs, .bool ts, .slice Bs ms ds], .int .i64 (allocE xs q)]) (by simp [results, Tryz.results57, go_sem, e0, e1, e2, e3]) rfl ?_
   exact ⟨_, _, _, _, _, _, _, _, rfl, retQ_fill (by omega) (Nat.lt_of_lt_of_le Kr.out.2.2 Ew2.out.size) (by rw [HV.out]; exact HQS.out) (ET Ew1.out (ET Ew2.out (ET Ew10.out Ew11.out))) _ _ _ _⟩
end Go.Proofs.YtjinpfnefeiooaaGreat
