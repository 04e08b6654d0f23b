/- The walk of the law StepCostMatches. Printed by gen_costm.py. -/
import Derived.Test.YtppcpklnnbgcjaaGreatAwake23
import Derived.Test.YtppcpklnnbgcjaaGreatSpoil
namespace Go.Proofs.YtppcpklnnbgcjaaGreat
open Go.RowKit

theorem one_steps : ∀ (ys : List (Int × Int)), ∀ u ∈ stepCells ys, u.oneCell' = true
  | [], u, h => by simp [stepCells] at h
  | x :: r, u, h => by
    simp only [stepCells, List.mem_cons] at h
    rcases h with rfl | rfl | h
    · rfl
    · rfl
    · exact one_steps r u h
theorem stepCells_get (ys : List (Int × Int)) {j : Nat} {x : Value} (h : (stepCells ys)[j]? = some x) : j < ys.length * 2 ∧ (x = .int .i64 (ys.getD (j / 2) (0, 0)).1 ∧ j = j / 2 * 2 ∨ x = .int .i64 (ys.getD (j / 2) (0, 0)).2 ∧ j = j / 2 * 2 + 1) := by
  have hj : j < (stepCells ys).length := by
    rcases Nat.lt_or_ge j (stepCells ys).length with h' | h'
    · exact h'
    · rw [List.getElem?_eq_none h'] at h; cases h
  rw [stepCells_len] at hj
  obtain ⟨a0, a1⟩ := stepCells_at ys (j / 2) (by omega)
  refine ⟨hj, ?_⟩
  have hm : j = j / 2 * 2 ∨ j = j / 2 * 2 + 1 := by omega
  rcases hm with hm | hm
  · rw [← hm] at a0
    exact .inl ⟨by rw [h] at a0; injection a0, hm⟩
  · rw [← hm] at a1
    exact .inr ⟨by rw [h] at a1; injection a1, hm⟩
set_option maxRecDepth 100000 in
/-- A copy of steps behind an own, empty slice. -/
theorem wpList_copy_steps (w : World) {ops : Array Oper} {rest : List Oper} {o : Oper} {a : Act} {Q : Exit → Act → World → Prop} (hgd : o.guard = none) (s y : Operand)
    (ho : o.op = .call { callee := .builtin .append, args := #[s, y], argTypes := #[22, 22] })
    (hs : a.eval s = .slice (some ⟨w.heap.size, 0, none⟩) 0 0) (A : Option Addr) (m d : Nat) (xs : List (Int × Int)) (hy : a.eval y = .slice A m d) (hsrc : StepsAt w A m xs) (h63 : m ≤ 1000)
    (h : ∀ g cap w', StepsAt w' (some ⟨g, 0, none⟩) m xs → m ≤ cap → cap ≤ maxLen → Ext w w' → wpList Tryz.prog ops Q rest (a.put o.dst (.slice (some ⟨g, 0, none⟩) m cap)) w') :
    wpList Tryz.prog ops Q (o :: rest) a (w.alloc (.cells #[] 47)) := by
  have hE : Ext w (w.alloc (.cells #[] 47)) := Ext.al Ext.rfl' _
  have hown : (w.alloc (.cells #[] 47)).ownsRow w.heap.size 47 2 (.slice (some ⟨w.heap.size, 0, none⟩) 0 0) 0 [] := ⟨by simp, .inr ⟨w.heap.size, 0, #[], rfl, Nat.le_refl _, heap_alloc_new w _, Nat.le_refl _, by simp [maxLen], by simp, by simp⟩⟩
  obtain ⟨i0, hi0, hz0, hz1, hz2⟩ := info_parts info_step
  refine wpList_plain hgd fun K hK => ?_
  rcases A with _ | ad
  · have hm : m = 0 := by
      rcases Nat.eq_zero_or_pos m with h0 | h0
      · exact h0
      · obtain ⟨_, _, e, _⟩ := hsrc.2 h0; cases e
    subst hm
    have hx : xs = [] := List.eq_nil_of_length_eq_zero hsrc.1
    subst hx
    have hrun : (Builtin.append_ #[22, 22] o.type #[.slice (some ⟨w.heap.size, 0, none⟩) 0 0, .slice none 0 d]).run Tryz.prog (w.alloc (.cells #[] 47)) = .ok (.slice (some ⟨w.heap.size, 0, none⟩) 0 0) (w.alloc (.cells #[] 47)) := by
      simp [Builtin.append_, run_underlying Tryz.underlying22, sizeOf, typeInfo, hi0, Builtin.lenOf, Builtin.firstCells, storeCells]
    unfold Oper.wp execOp
    simp only [ho, resolve, invoke, builtin, Sem.run_bind, Sem.run_pure, Result.andThen_ok, List.map_toArray, List.map_cons, List.map_nil, hs, hy, hrun]
    exact hK _ _ (h _ _ _ ⟨rfl, fun h => absurd h (by omega)⟩ (Nat.le_refl _) (by simp [maxLen]) hE)
  · have hnews : ∀ j x, (stepCells xs)[j]? = some x → (w.alloc (.cells #[] 47)).cell? (ad.add j) = some x := by
      intro j x hx
      obtain ⟨hj, hc⟩ := stepCells_get xs hx
      rw [hsrc.1] at hj
      obtain ⟨b, off, e, hlt, hcell⟩ := hsrc.2 (by omega)
      injection e with e
      subst e
      have : (⟨b, off, none⟩ : Addr).add j = ⟨b, off + j, none⟩ := by unfold Addr.add; split <;> simp_all
      rw [this]
      obtain ⟨c0, c1⟩ := hcell (j / 2) (by omega)
      rcases hc with ⟨rfl, hm⟩ | ⟨rfl, hm⟩
      · rw [show off + j = off + j / 2 * 2 by omega]; exact Ext.cellOf hE c0
      · rw [show off + j = off + j / 2 * 2 + 1 by omega]; exact Ext.cellOf hE c1
    obtain ⟨v', w', hrun, h2, h3, h4, h5⟩ := run_append_own_at (P := Tryz.prog) (w.alloc (.cells #[] 47)) w.heap.size 22 o.type 47 i0 _ 2 16 Tryz.underlying22 hi0 hz0 hz1 hz2 rfl (by omega) _ 0 [] hown ad m d (stepCells xs) (by rw [stepCells_len, hsrc.1]) hnews (one_steps xs) (by simp [maxLen]; omega) (by omega) hE.size
    rcases h2.2 with ⟨hn, _⟩ | ⟨g, cap, cur, rfl, h6⟩
    · exact absurd (h4.1 hn) (by rintro ⟨e1, e2⟩; cases e1)
    · simp only [List.nil_append, Nat.zero_add] at h2 hrun
      obtain ⟨A', c', e, g1, g2, g3⟩ := own_steps h2
      injection e with e1 e2 e3
      subst e1 e3
      unfold Oper.wp execOp
      simp only [ho, resolve, invoke, builtin, Sem.run_bind, Sem.run_pure, Result.andThen_ok, List.map_toArray, List.map_cons, List.map_nil, hs, hy, hrun]
      exact hK _ _ (h g _ w' g3 g1 g2 (ext_grownW hE h3 (fun g' hg => by simp [Value.ownBlock] at hg; omega)))
theorem U32s.spoilt {B0 B : Nat} {w w' : World} (hs : Spoilt B0 w w') {A : Option Addr} {n : Nat} (h : U32s w B A n) : U32s w' B A n := fun hn => by
  obtain ⟨b, off, e, hB, hc⟩ := h hn
  refine ⟨b, off, e, hB, fun k hk => ?_⟩
  obtain ⟨⟨x, hx⟩, hf⟩ := hc k hk
  exact ⟨hs.words _ x hx, (hs.frozen _).trans hf⟩
theorem U32s.ext {B : Nat} {w w' : World} (hb : Ext w w') {A : Option Addr} {n : Nat} (h : U32s w B A n) : U32s w' B A n := fun hn => by
  obtain ⟨b, off, e, hB, hc⟩ := h hn
  refine ⟨b, off, e, hB, fun k hk => ?_⟩
  obtain ⟨⟨x, hx⟩, hf⟩ := hc k hk
  exact ⟨⟨x, Ext.cellOf hb hx⟩, (hb.frozen (p := ⟨b, off + k, none⟩) (World.block_lt_of_cell? _ _ hx)).trans hf⟩
theorem U32s.base {B B' : Nat} {w : World} {A : Option Addr} {n : Nat} (h : U32s w B A n) (hb : B' ≤ B) : U32s w B' A n := fun hn => by
  obtain ⟨b, off, e, hB, hc⟩ := h hn
  exact ⟨b, off, e, by omega, hc⟩
theorem wrow_lit {B : Nat} {w : World} {s : Bool} {A : Option Addr} {n c : Nat} {t : Bool} {B' : Option Addr} {m d : Nat} (h1 : U32s w B A n) (h2 : U32s w B B' m) (hn : n ≤ maxLen) (hm : m ≤ maxLen) (ty : TypeId) : WRow (w.alloc (.cells #[.bool s, .slice A n c, .bool t, .slice B' m d] ty)) B (some ⟨w.heap.size, 0, none⟩) 1 := fun i hi => by
  obtain rfl : i = 0 := by omega
  have hE : Ext w (w.alloc (.cells #[.bool s, .slice A n c, .bool t, .slice B' m d] ty)) := Ext.al Ext.rfl' _
  have hb := Blk.new w ty #[.bool s, .slice A n c, .bool t, .slice B' m d]
  exact ⟨w.heap.size, 0, s, A, n, c, t, B', m, d, rfl, by rw [hb.cell]; rfl, by rw [hb.cell]; rfl, by rw [hb.cell]; rfl, by rw [hb.cell]; rfl, h1.ext hE, h2.ext hE, hn, hm⟩
theorem alloc_len {xs : List (Int × Int)} {q : Rat} : ∃ N, N ≤ 3 ∧ (allocE xs q = 0 → N = xs.length) ∧ (allocE xs q ≠ 0 → N = 0) := by
  by_cases h : allocE xs q = 0
  · exact ⟨xs.length, (crv_range (allocE_range h)).2.1, fun _ => rfl, fun e => absurd h e⟩
  · exact ⟨0, by omega, fun e => absurd e h, fun _ => rfl⟩
theorem RetAlloc.row {w w' : World} {xs : List (Int × Int)} {q : Rat} {e : Ending} (h : RetAlloc w xs q e w') {N : Nat} (h1 : allocE xs q = 0 → N = xs.length) (h2 : allocE xs q ≠ 0 → N = 0) :
    ∃ P c, e = .returned (.tuple #[.slice P N c, .int .i64 (allocE xs q)]) ∧ LRow w' P N (partAt q xs) ∧ WRow w' w.heap.size P N ∧ Ext w w' := by
  obtain ⟨hE, v, rfl, hv1, hv2⟩ := h
  by_cases h0 : allocE xs q = 0
  · obtain ⟨g, rfl, hg, hP⟩ := hv2 h0
    obtain rfl := h1 h0
    exact ⟨_, _, rfl, hP.lrow, hP.wrow, hE⟩
  · obtain rfl := hv1 h0
    obtain rfl := h2 h0
    exact ⟨none, 0, rfl, fun i hi => absurd hi (by omega), fun i hi => absurd hi (by omega), hE⟩
theorem RetAllocR.row {w w' : World} {xs : List (Int × Int)} {q : Rat} {e : Ending} (h : RetAllocR w xs q e w') {N : Nat} (h1 : allocE xs q = 0 → N = xs.length) (h2 : allocE xs q ≠ 0 → N = 0) :
    ∃ P c, e = .returned (.tuple #[.slice P N c, .int .i64 (allocE xs q)]) ∧ LRow w' P N (partAt q xs) ∧ Ext w w' := by
  obtain ⟨hE, v, rfl, hv1, hv2⟩ := h
  by_cases h0 : allocE xs q = 0
  · obtain ⟨P, c, rfl, -, -, hP⟩ := hv2 h0
    obtain rfl := h1 h0
    exact ⟨_, _, rfl, hP, hE⟩
  · obtain rfl := hv1 h0
    obtain rfl := h2 h0
    exact ⟨none, 0, rfl, fun i hi => absurd hi (by omega), hE⟩
theorem part_sz {xs : List (Int × Int)} {q : Rat} (hq : Sz 1000 q) {N : Nat} (h1 : allocE xs q = 0 → N = xs.length) (h2 : allocE xs q ≠ 0 → N = 0) (i : Nat) (hi : i < N) : Sz 33554432 (partAt q xs i) := by
  by_cases h0 : allocE xs q = 0
  · obtain rfl := h1 h0
    obtain ⟨-, hl, hr⟩ := crv_range (allocE_range h0)
    have h8 := pow2_le (show i ≤ 3 by omega)
    exact (sz_part hq hr i hi).mono (by omega)
  · obtain rfl := h2 h0
    omega
set_option maxRecDepth 100000 in
set_option maxHeartbeats 16000000 in
theorem costm_any (A : Option Addr) (n c : Nat) (xs : List (Int × Int)) (s1 : Bool) (A1 : Option Addr) (n1 c1 : Nat) (t1 : Bool) (B1 : Option Addr) (m1 d1 : Nat) (q : Rat) (w : World) (hs : StepsAt w A n xs) (hn : n ≤ maxLen) (h1 : QIs w s1 A1 n1 c1 t1 B1 m1 d1 q) :
    Calls Tryz.prog 3 #[.slice A n c, .agg #[.bool s1, .slice A1 n1 c1, .bool t1, .slice B1 m1 d1]] w fun e w' => e = .returned (.bool true) ∧ Ext w w' := by
  by_cases h100 : 100 < n
  · have hb : decide ((100 : Int) < (n : Int)) = true := by simp; omega
    have hb2 : decide (100 < n) = true := by simp; omega
    go_enter Tryz.func3, Tryz.ntmps3
    go_wp2_with fail
    refine (awake_any _).mono ?_
    rintro e wz ⟨rfl, hEz⟩
    go_wp2_with fail
    go_ret
    exact ⟨rfl, Ext.trans (Ext.al Ext.rfl' _) hEz⟩
  have hb : decide ((100 : Int) < (n : Int)) = false := by simp; omega
  have hb2 : decide (100 < n) = false := by simp; omega
  have HS := Lib.hid hs
  have H1 := Lib.hid h1
  have HBL : Hid (n1 ≤ maxLen ∧ m1 ≤ maxLen) := by
    obtain ⟨z, y, ⟨_, _, a1, a2, _⟩, ⟨_, _, a3, a4, _⟩, _⟩ := h1
    exact ⟨by omega, by omega⟩
  clear hs h1
  go_enter Tryz.func3, Tryz.ntmps3
  go_wp2_with fail
  have k1 := Cell4.new w _ rfl (.bool s1) (.slice A1 n1 c1) (.bool t1) (.slice B1 m1 d1) 27
  have hE : Ext w (w.alloc (.cells #[.bool s1, .slice A1 n1 c1, .bool t1, .slice B1 m1 d1] 27)) := Ext.al Ext.rfl' _
  have hbk := Blk.new (w.alloc (.cells #[.bool s1, .slice A1 n1 c1, .bool t1, .slice B1 m1 d1] 27)) 27 #[.bool s1, .slice A1 n1 c1, .bool t1, .slice B1 m1 d1]
  have hE1 : Ext (w.alloc (.cells #[.bool s1, .slice A1 n1 c1, .bool t1, .slice B1 m1 d1] 27)) ((w.alloc (.cells #[.bool s1, .slice A1 n1 c1, .bool t1, .slice B1 m1 d1] 27)).alloc (.cells #[.bool s1, .slice A1 n1 c1, .bool t1, .slice B1 m1 d1] 27)) := Ext.al Ext.rfl' _
  rw [show (w.alloc (.cells #[.bool s1, .slice A1 n1 c1, .bool t1, .slice B1 m1 d1] 27)).heap.size = w.heap.size + 1 by simp] at hbk
  generalize (w.alloc (.cells #[.bool s1, .slice A1 n1 c1, .bool t1, .slice B1 m1 d1] 27)).alloc (.cells #[.bool s1, .slice A1 n1 c1, .bool t1, .slice B1 m1 d1] 27) = wb2 at *
  generalize w.alloc (.cells #[.bool s1, .slice A1 n1 c1, .bool t1, .slice B1 m1 d1] 27) = wb1 at *
  have Ewb1 := Lib.hid hE
  clear hE
  have K1 := Lib.hid k1
  clear k1
  have Ewb2 := Lib.hid hE1
  clear hE1
  refine (long_any (w.heap.size + 1) 1 1 (fun _ => (n1, m1)) wb2 ?_ (by omega) ?_).mono ?_
  · intro i hi
    have : i = 0 := by omega
    subst this
    exact ⟨A1, c1, B1, d1, by rw [hbk.cell]; rfl, by rw [hbk.cell]; rfl⟩
  · intro i
    exact HBL.out
  rintro e w1 ⟨⟨bl, rfl, hbl⟩, hE⟩
  have Ew1 := Lib.hid hE
  clear hE
  have HLN : Hid (bl = false → n1 ≤ 6 ∧ m1 ≤ 6) := fun e => hbl.1 e 0 (by omega)
  clear hbk hbl HBL
  cases bl
  rotate_left
  · go_wp2_with fail
    refine (awake_any w1).mono ?_
    rintro e wz ⟨rfl, hEz⟩
    go_wp2_with fail
    go_ret
    exact ⟨rfl, Ext.trans (Ext.trans Ewb1.out (Ext.trans Ewb2.out Ew1.out)) hEz⟩
  obtain ⟨ln1, lm1⟩ := HLN.out rfl
  clear HLN
  have HZ1 : Hid (Sz 6 q) := H1.out.sz (by omega) (by omega) (by omega)
  obtain ⟨N, hN3, hN1, hN0⟩ := alloc_len (xs := xs) (q := q)
  have HN := Lib.hid (And.intro hN1 hN0)
  clear hN1 hN0
  have HPS : Hid (∀ i, i < N → Sz 33554432 (partAt q xs i)) := part_sz (HZ1.out.mono (by omega)) HN.out.1 HN.out.2
  have hn100 : n ≤ 100 := by omega
  have HSc := Lib.hid (HS.out.below (Ext.trans Ewb1.out (Ext.trans Ewb2.out Ew1.out)))
  obtain ⟨⟨x10, x11, x12, x13⟩, -, x1z⟩ := (K1.out.ext (Ext.trans Ewb2.out Ew1.out))
  go_wp2_with (
    at_builtin
    refine wpList_copy_steps w1 rfl (.tmp 24) (.tmp 25) rfl rfl A n c xs rfl HSc.out (by omega) ?_
    intro gi cpi w2 hin hic1 hic2 hE
    have HIN := Lib.hid hin
    have HIC := Lib.hid (And.intro hic1 hic2)
    have Ew2 := Lib.hid hE
    clear hin hic1 hic2 hE x10 x11 x12 x13 x1z
    obtain ⟨⟨x10, x11, x12, x13⟩, -, x1z⟩ := (K1.out.ext (Ext.trans (Ext.trans Ewb2.out Ew1.out) Ew2.out)))
  clear x10 x11 x12 x13 x1z
  refine (ralloc_any A n c xs s1 A1 n1 c1 t1 B1 m1 d1 q w2 (HS.out.below (Ext.trans Ewb1.out (Ext.trans Ewb2.out (Ext.trans Ew1.out Ew2.out)))) hn (H1.out.ext (Ext.trans Ewb1.out (Ext.trans Ewb2.out (Ext.trans Ew1.out Ew2.out)))) (by omega) (by omega)).mono ?_
  intro e w3 hr
  obtain ⟨PW, cW, rfl, hlr, hE⟩ := hr.row HN.out.1 HN.out.2
  clear hr
  have HW := Lib.hid hlr
  clear hlr
  have Ew3 := Lib.hid hE
  clear hE
  obtain ⟨⟨x10, x11, x12, x13⟩, -, z1⟩ := (K1.out.ext (Ext.trans Ewb2.out (Ext.trans Ew1.out (Ext.trans Ew2.out Ew3.out))))
  go_wp2_with fail
  clear x10 x11 x12 x13 z1
  refine (rcost_any A n c xs s1 A1 n1 c1 t1 B1 m1 d1 q w3 (HS.out.below (Ext.trans Ewb1.out (Ext.trans Ewb2.out (Ext.trans Ew1.out (Ext.trans Ew2.out Ew3.out))))) hn (H1.out.ext (Ext.trans Ewb1.out (Ext.trans Ewb2.out (Ext.trans Ew1.out (Ext.trans Ew2.out Ew3.out))))) (by omega) (by omega)).mono ?_
  rintro e w4 ⟨sm, Am, nm, cm, tm, Bm, mm, dm, rfl, hQ, hE⟩
  have Ew4 := Lib.hid hE
  clear hE
  have Qm := Lib.hid hQ
  clear hQ
  have HZm : Hid (Sz 8024 (costV xs q)) := sz_costV (HZ1.out.mono (by omega))
  obtain ⟨ae, hae⟩ : ∃ v, allocE xs q = v := ⟨_, rfl⟩
  have HAE := Lib.hid hae
  rw [hae]
  clear hae
  have hb1 : (ae != ae) = false := by simp
  have hb1' : (ae == ae) = true := by simp
  obtain ⟨⟨x10, x11, x12, x13⟩, -, z1⟩ := (K1.out.ext (Ext.trans Ewb2.out (Ext.trans Ew1.out (Ext.trans Ew2.out (Ext.trans Ew3.out Ew4.out)))))
  go_wp2_with fail
  clear x10 x11 x12 x13 z1
  have kw5 := Cell4.new w4 _ rfl (.bool sm) (.slice Am nm cm) (.bool tm) (.slice Bm mm dm) 27
  have hE : Ext w4 (w4.alloc (.cells #[.bool sm, .slice Am nm cm, .bool tm, .slice Bm mm dm] 27)) := Ext.al Ext.rfl' _
  generalize w4.alloc (.cells #[.bool sm, .slice Am nm cm, .bool tm, .slice Bm mm dm] 27) = w5 at *
  have Ew5 := Lib.hid hE
  clear hE
  have Km := Lib.hid kw5
  clear kw5
  go_loopw [10] (fun i wr => ∃ k : Nat, k ≤ 2 ∧ i = .int .i64 k ∧ Hid (Ext w5 wr)) (fun i _ => 2 - (intOf i).toNat)
  case atStart => exact ⟨0, by omega, rfl, Ext.rfl'⟩
  case round =>
    obtain ⟨k, hk, rfl, HEL⟩ := hrel
    by_cases hlt : k < 2
    rotate_left
    · have hbv : decide ((k : Int) < 2) = false := by simp; omega
      have hbv2 : decide (k < 2) = false := by simp; omega
      go_wp2_with fail
      refine (awake_any wr).mono ?_
      rintro e wz ⟨rfl, hEz⟩
      go_wp2_with fail
      go_ret
      exact ⟨rfl, Ext.trans (Ext.trans Ewb1.out (Ext.trans Ewb2.out (Ext.trans Ew1.out (Ext.trans Ew2.out (Ext.trans Ew3.out (Ext.trans Ew4.out (Ext.trans Ew5.out HEL.out))))))) hEz⟩
    · have hbv : decide ((k : Int) < 2) = true := by simp; omega
      have hbv2 : decide (k < 2) = true := by simp; omega
      obtain ⟨⟨x10, x11, x12, x13⟩, -, z1⟩ := (K1.out.ext (Ext.trans Ewb2.out (Ext.trans Ew1.out (Ext.trans Ew2.out (Ext.trans Ew3.out (Ext.trans Ew4.out (Ext.trans Ew5.out HEL.out)))))))
      go_wp2_with fail
      clear x10 x11 x12 x13 z1
      refine (allocate_any (some ⟨gi, 0, none⟩) n cpi xs s1 A1 n1 c1 t1 B1 m1 d1 q wr (HIN.out.below (Ext.trans Ew3.out (Ext.trans Ew4.out (Ext.trans Ew5.out HEL.out)))) hn (H1.out.ext (Ext.trans Ewb1.out (Ext.trans Ewb2.out (Ext.trans Ew1.out (Ext.trans Ew2.out (Ext.trans Ew3.out (Ext.trans Ew4.out (Ext.trans Ew5.out HEL.out)))))))) (by omega) (by omega)).mono ?_
      intro e w6 hr
      obtain ⟨PX, cX, rfl, hlr, hsr, hE⟩ := hr.row HN.out.1 HN.out.2
      clear hr
      have HX := Lib.hid hlr
      have HSX := Lib.hid hsr
      clear hlr hsr
      rw [HAE.out]
      have Ew6 := Lib.hid hE
      clear hE
      obtain ⟨⟨x10, x11, x12, x13⟩, -, z1⟩ := (K1.out.ext (Ext.trans Ewb2.out (Ext.trans Ew1.out (Ext.trans Ew2.out (Ext.trans Ew3.out (Ext.trans Ew4.out (Ext.trans Ew5.out (Ext.trans HEL.out Ew6.out))))))))
      go_wp2_with fail
      clear x10 x11 x12 x13 z1
      refine (cost_any (some ⟨gi, 0, none⟩) n cpi xs s1 A1 n1 c1 t1 B1 m1 d1 q w6 (HIN.out.below (Ext.trans Ew3.out (Ext.trans Ew4.out (Ext.trans Ew5.out (Ext.trans HEL.out Ew6.out))))) hn (H1.out.ext (Ext.trans Ewb1.out (Ext.trans Ewb2.out (Ext.trans Ew1.out (Ext.trans Ew2.out (Ext.trans Ew3.out (Ext.trans Ew4.out (Ext.trans Ew5.out (Ext.trans HEL.out Ew6.out))))))))) (by omega) (by omega)).mono ?_
      rintro e w7 ⟨sc, Ac, nc, cc, tc, Bc, mc, dc, rfl, hQ, hE⟩
      have Ew7 := Lib.hid hE
      clear hE
      rw [HAE.out]
      have Qc := Lib.hid hQ
      clear hQ
      obtain ⟨⟨x10, x11, x12, x13⟩, -, z1⟩ := (K1.out.ext (Ext.trans Ewb2.out (Ext.trans Ew1.out (Ext.trans Ew2.out (Ext.trans Ew3.out (Ext.trans Ew4.out (Ext.trans Ew5.out (Ext.trans HEL.out (Ext.trans Ew6.out Ew7.out)))))))))
      go_wp2_with fail
      clear x10 x11 x12 x13 z1
      have kw8 := Cell4.new w7 _ rfl (.bool sc) (.slice Ac nc cc) (.bool tc) (.slice Bc mc dc) 27
      have hE : Ext w7 (w7.alloc (.cells #[.bool sc, .slice Ac nc cc, .bool tc, .slice Bc mc dc] 27)) := Ext.al Ext.rfl' _
      generalize w7.alloc (.cells #[.bool sc, .slice Ac nc cc, .bool tc, .slice Bc mc dc] 27) = w8 at *
      have Ew8 := Lib.hid hE
      clear hE
      have Kc := Lib.hid kw8
      clear kw8
      obtain ⟨⟨xc0, xc1, xc2, xc3⟩, -, zc⟩ := Kc.out
      obtain ⟨⟨xm0, xm1, xm2, xm3⟩, -, zm⟩ := (Km.out.ext (Ext.trans HEL.out (Ext.trans Ew6.out (Ext.trans Ew7.out Ew8.out))))
      go_wp2_with fail
      clear xc0 xc1 xc2 xc3 zc xm0 xm1 xm2 xm3 zm
      refine (rrows_new PX N cX _ PW N cW _ w8 (HX.out.ext (Ext.trans Ew7.out Ew8.out)) (HW.out.ext (Ext.trans Ew4.out (Ext.trans Ew5.out (Ext.trans HEL.out (Ext.trans Ew6.out (Ext.trans Ew7.out Ew8.out)))))) HPS.out (by omega) (by omega)).mono ?_
      rintro e w9 ⟨⟨bx, rfl, hbx⟩, hE⟩
      obtain rfl : bx = true := hbx.2 ⟨rfl, fun i hi => rfl⟩
      clear hbx
      have Ew9 := Lib.hid hE
      clear hE
      obtain ⟨⟨xc0, xc1, xc2, xc3⟩, -, zc⟩ := (Kc.out.ext Ew9.out)
      obtain ⟨⟨xm0, xm1, xm2, xm3⟩, -, zm⟩ := (Km.out.ext (Ext.trans HEL.out (Ext.trans Ew6.out (Ext.trans Ew7.out (Ext.trans Ew8.out Ew9.out)))))
      go_wp2_with fail
      clear xc0 xc1 xc2 xc3 zc xm0 xm1 xm2 xm3 zm
      have hlc := (Qc.out.ext (Ext.trans Ew8.out Ew9.out)).len HZm.out
      refine (ris_any sc Ac nc cc tc Bc mc dc _ sm Am nm cm tm Bm mm dm _ _ _ w9 (Qc.out.ext (Ext.trans Ew8.out Ew9.out)) (Qm.out.ext (Ext.trans Ew5.out (Ext.trans HEL.out (Ext.trans Ew6.out (Ext.trans Ew7.out (Ext.trans Ew8.out Ew9.out)))))) (by omega) (by omega)).mono ?_
      rintro e w10 ⟨rfl, hE⟩
      rw [decide_eq_true rfl]
      have HLC := Lib.hid hlc
      clear hlc
      have Ew10 := Lib.hid hE
      clear hE
      go_wp2_with fail
      refine (rsteps_same (some ⟨gi, 0, none⟩) n cpi xs A n c xs w10 (HIN.out.below (Ext.trans Ew3.out (Ext.trans Ew4.out (Ext.trans Ew5.out (Ext.trans HEL.out (Ext.trans Ew6.out (Ext.trans Ew7.out (Ext.trans Ew8.out (Ext.trans Ew9.out Ew10.out))))))))) (HS.out.below (Ext.trans Ewb1.out (Ext.trans Ewb2.out (Ext.trans Ew1.out (Ext.trans Ew2.out (Ext.trans Ew3.out (Ext.trans Ew4.out (Ext.trans Ew5.out (Ext.trans HEL.out (Ext.trans Ew6.out (Ext.trans Ew7.out (Ext.trans Ew8.out (Ext.trans Ew9.out Ew10.out))))))))))))) hn hn).mono ?_
      rintro e w11 ⟨rfl, hE⟩
      rw [decide_eq_true rfl]
      have Ew11 := Lib.hid hE
      clear hE
      go_wp2_with fail
      have hsx : w5.heap.size ≤ wr.heap.size := HEL.out.size
      have HU1 : Hid (U32s w11 wr.heap.size Ac nc ∧ U32s w11 wr.heap.size Bc mc) := ⟨((Qc.out.ext (Ext.trans Ew8.out (Ext.trans Ew9.out (Ext.trans Ew10.out Ew11.out)))).1.u32s).base Ew6.out.size, ((Qc.out.ext (Ext.trans Ew8.out (Ext.trans Ew9.out (Ext.trans Ew10.out Ew11.out)))).2.u32s).base Ew6.out.size⟩
      have KC := Lib.hid (Kc.out.ext (Ext.trans Ew9.out (Ext.trans Ew10.out Ew11.out)))
      refine (spoil_any PX N cX wr.heap.size w11 (HSX.out.ext (Ext.trans Ew7.out (Ext.trans Ew8.out (Ext.trans Ew9.out (Ext.trans Ew10.out Ew11.out))))) (by simp [maxLen]; omega)).mono ?_
      rintro e w12 ⟨rfl, hsp⟩
      have HSP := Lib.hid hsp
      clear hsp
      have EZw12 : Hid (Ext w5 w12) := HSP.out.ext _ (Ext.trans HEL.out (Ext.trans Ew6.out (Ext.trans Ew7.out (Ext.trans Ew8.out (Ext.trans Ew9.out (Ext.trans Ew10.out Ew11.out)))))) hsx
      have HU2 : Hid (U32s w12 wr.heap.size Ac nc ∧ U32s w12 wr.heap.size Bc mc) := ⟨HU1.out.1.spoilt HSP.out, HU1.out.2.spoilt HSP.out⟩
      have xc0 := HSP.out.other ⟨w7.heap.size, 0, none⟩ (.bool sc) KC.out.1.1 (fun x => by simp)
      have xc1 := HSP.out.other ⟨w7.heap.size, 1, none⟩ (.slice Ac nc cc) KC.out.1.2.1 (fun x => by simp)
      have xc2 := HSP.out.other ⟨w7.heap.size, 2, none⟩ (.bool tc) KC.out.1.2.2.1 (fun x => by simp)
      have xc3 := HSP.out.other ⟨w7.heap.size, 3, none⟩ (.slice Bc mc dc) KC.out.1.2.2.2 (fun x => by simp)
      have zc : w7.heap.size < w12.heap.size := Nat.lt_of_lt_of_le KC.out.2.2 HSP.out.size
      go_wp2_with fail
      clear xc0 xc1 xc2 xc3 zc
      have HSR : Hid (WRow (w12.alloc (.cells #[.bool sc, .slice Ac nc cc, .bool tc, .slice Bc mc dc] 27)) wr.heap.size (some ⟨w12.heap.size, 0, none⟩) 1) := wrow_lit HU2.out.1 HU2.out.2 (Nat.le_trans HLC.out.1 (by simp [maxLen])) (Nat.le_trans HLC.out.2 (by simp [maxLen])) _
      have HEF : Hid (Ext w5 (w12.alloc (.cells #[.bool sc, .slice Ac nc cc, .bool tc, .slice Bc mc dc] 27))) := Ext.al EZw12.out _
      refine (spoil_any (some ⟨w12.heap.size, 0, none⟩) 1 1 wr.heap.size _ HSR.out (by simp [maxLen])).mono ?_
      rintro e w13 ⟨rfl, hsp⟩
      have HEG : Hid (Ext w5 w13) := hsp.ext _ HEF.out hsx
      clear hsp
      go_wp2_with fail
      go_roundw
      case rel => exact ⟨k + 1, by omega, by go_num, HEG.out⟩
      case measure => simp [intOf]; omega
end Go.Proofs.YtppcpklnnbgcjaaGreat
