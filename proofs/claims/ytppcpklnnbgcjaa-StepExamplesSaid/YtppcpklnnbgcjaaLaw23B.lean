/- Contracts of pylonlaw23's helpers: steps, whole, costs, wanted, curve. Contract of pylonlaw23.Long. -/
import Derived.Test.YtppcpklnnbgcjaaHalve
import Derived.Test.YtppcpklnnbgcjaaStepX
namespace Go.Proofs.Ytppcpklnnbgcjaa
open Go.RowKit

theorem info_step : (Try.prog.info? 26).map (fun i => (i.zero, i.size, i.bytes)) = some (some (.agg #[.int .i64 0, .int .i64 0]), 2, 16) := by kernel_rfl
/-- The cells of steps. -/
def stepCells : List (Int × Int) → List Value
  | [] => []
  | x :: r => .int .i64 x.1 :: .int .i64 x.2 :: stepCells r
theorem stepCells_append (a b : List (Int × Int)) : stepCells (a ++ b) = stepCells a ++ stepCells b := by
  induction a with
  | nil => rfl
  | cons x r ih => simp [stepCells, ih]
theorem stepCells_len : ∀ a : List (Int × Int), (stepCells a).length = a.length * 2
  | [] => rfl
  | x :: r => by simp only [stepCells, List.length_cons, stepCells_len r]; omega
theorem stepCells_at : ∀ (a : List (Int × Int)) (i : Nat), i < a.length → (stepCells a)[i * 2]? = some (.int .i64 (a.getD i (0, 0)).1) ∧ (stepCells a)[i * 2 + 1]? = some (.int .i64 (a.getD i (0, 0)).2)
  | x :: r, 0, _ => by simp [stepCells]
  | x :: r, i + 1, h => by
    have ih := stepCells_at r i (by simpa using h)
    simp only [stepCells]
    rw [show (i + 1) * 2 = i * 2 + 1 + 1 by omega]
    simpa using ih
theorem own_steps {w : World} {base n : Nat} {v : Value} {ps : List (Int × Int)} (h : w.ownsRow base 26 2 v n (stepCells ps)) : ∃ A c, v = .slice A n c ∧ n ≤ c ∧ c ≤ maxLen ∧ StepsAt w A n ps := by
  have hl : ps.length = n := by have := h.1; rw [stepCells_len] at this; omega
  rcases h.2 with ⟨rfl, hn⟩ | ⟨g, cap, cur, rfl, hb, hh, h3, h4, _⟩
  · subst hn
    exact ⟨none, 0, rfl, Nat.le_refl _, by simp [maxLen], hl, fun h => absurd h (by omega)⟩
  · refine ⟨_, _, rfl, h3, h4, hl, fun _ => ⟨g, 0, rfl, (own_lt h rfl).1, fun i hi => ?_⟩⟩
    have := stepCells_at ps i (by omega)
    rw [Nat.zero_add, h.cellAt (i * 2) (by omega), h.cellAt (i * 2 + 1) (by omega)]
    exact this
/-- The slice with address A and length n holds these numbers. -/
def IntsAt (w : World) (A : Option Addr) (n : Nat) (zs : List Int) : Prop := zs.length = n ∧ ∃ b off, A = some ⟨b, off, none⟩ ∧ b < w.heap.size ∧ ∀ i, i < n → w.cell? ⟨b, off + i, none⟩ = some (.int .i64 (zs.getD i 0))
theorem IntsAt.below {w w' : World} {A : Option Addr} {n : Nat} {zs : List Int} (h : IntsAt w A n zs) (hb : Ext w w') : IntsAt w' A n zs := by
  obtain ⟨h1, b, off, ha, hlt, hc⟩ := h
  exact ⟨h1, b, off, ha, Nat.lt_of_lt_of_le hlt hb.size, fun i hi => Ext.cellOf hb (hc i hi)⟩
/-- The first k steps of numbers. -/
def stepsTo (zs : List Int) : Nat → List (Int × Int)
  | 0 => []
  | k + 1 => stepsTo zs k ++ [(zs.getD (2 * k) 0, zs.getD (2 * k + 1) 0)]

set_option maxRecDepth 100000 in
set_option maxHeartbeats 4000000 in
theorem steps_any (A : Option Addr) (h2 c : Nat) (zs : List Int) (w : World) (h : IntsAt w A (2 * h2) zs) (hn : h2 ≤ 100) :
    Calls Try.prog 26 #[.slice A (2 * h2) c] w fun e w' => ∃ A' c', e = .returned (.slice A' h2 c') ∧ StepsAt w' A' h2 (stepsTo zs h2) ∧ h2 ≤ c' ∧ c' ≤ maxLen ∧ Ext w w' := by
  obtain ⟨i0, hi, hz0, hz1, hz2⟩ := info_parts info_step
  have HI0 := Lib.hid (And.intro hi (And.intro hz0 (And.intro hz1 hz2)))
  obtain ⟨hl, b, off, rfl, hb, hcell⟩ := h
  have HC := Lib.hid hcell
  clear hi hz0 hz1 hz2 hl hcell
  go_enter Try.func26, Try.ntmps26
  go_wp2_with fail
  go_loopw [3, 4] (fun v i wr => ∃ k : Nat, k ≤ h2 ∧ i = .int .i64 ((2 * k : Nat) : Int) ∧ Hid (Ext w wr ∧ wr.ownsRow w.heap.size 26 2 v k (stepCells (stepsTo zs k)))) (fun _ i _ => 2 * h2 + 2 - (intOf i).toNat)
  case atStart => exact ⟨0, by omega, rfl, Ext.rfl', own_nil _ _ _ _⟩
  case round =>
    obtain ⟨k, hk, rfl, HI⟩ := hrel
    by_cases hlt : k < h2
    · have c0 := Ext.cellOf HI.out.1 (HC.out (2 * k) (by omega))
      have c1 := Ext.cellOf HI.out.1 (HC.out (2 * k + 1) (by omega))
      have hbv : decide (((2 * k : Nat) : Int) + 1 < ((2 * h2 : Nat) : Int)) = true := by simp; omega
      have HT : Hid (stepsTo zs (k + 1) = stepsTo zs k ++ [(zs.getD (2 * k) 0, zs.getD (2 * k + 1) 0)]) := rfl
      generalize zs.getD (2 * k) 0 = x at *
      generalize zs.getD (2 * k + 1) 0 = y at *
      have HO := Lib.hid HI.out.2
      have HE := Lib.hid HI.out.1
      clear HI
      obtain ⟨j, hj⟩ : ∃ j, 2 * k = j := ⟨_, rfl⟩
      obtain ⟨nn, hnn⟩ : ∃ j, 2 * h2 = j := ⟨_, rfl⟩
      have hj1 : j + 1 < nn := by omega
      have hj2 : nn ≤ 200 := by omega
      have HJ := Lib.hid (And.intro hj hnn)
      rw [hj] at c0 c1 hbv ⊢
      rw [hnn] at hbv ⊢
      clear hj hnn
      go_wp2_with fail
      refine wp_region_lex (C := InX wr.drew u3.ownBlock.toList) (by kernel_rfl) (by kernel_rfl) (inX_self _ _) ?_
      have hnb : b ∉ u3.ownBlock.toList := by
        intro hm
        have := (own_lt HO.out (g := b) (by simpa using hm)).2
        omega
      have c0' : wr.drew.cell? ⟨b, off + j, none⟩ = some (.int .i64 x) := c0
      have c1' : wr.drew.cell? ⟨b, off + (j + 1), none⟩ = some (.int .i64 y) := c1
      have x0 := fun z : ExtX wr.drew u3.ownBlock.toList => z.cell (p := ⟨b, off + j, none⟩) c0' hnb
      have x1 := fun z : ExtX wr.drew u3.ownBlock.toList => z.cell (p := ⟨b, off + (j + 1), none⟩) c1' hnb
      have HO2 : Hid (wr.drew.ownsRow w.heap.size 26 2 u3 k (stepCells (stepsTo zs k))) := HO.out
      have HE2 : Hid (Ext w wr.drew) := HE.out.drew
      clear c0 c1 c0' c1' HO HE
      generalize wr.drew = wd at *
      repeat (refine wpLex_still (by rfl) ?_; go_big_quiet_step (fail); refine wpQuiet_nil ?_)
      refine wpLex_move (by rfl) (by rfl) ?_
      go_wp2_with fail
      refine And.intro (inX_of_ext _ (Ext.al Ext.rfl' _)) ?_
      have HO3 := Lib.hid (own_keep (w' := wd.alloc (.cells #[.int .i64 x, .int .i64 y] 26)) HO2.out (fun g hg => Below.heap_alloc wd _ g (own_lt HO2.out hg).1))
      have HE3 : Hid (Ext w (wd.alloc (.cells #[.int .i64 x, .int .i64 y] 26))) := Ext.al HE2.out _
      have HX3 := Lib.hid (inX_of_ext u3.ownBlock.toList (Ext.al (Ext.rfl' (w := wd)) (.cells #[.int .i64 x, .int .i64 y] 26)))
      have HNW := Lib.hid (World.news_of_block (cs := #[.int .i64 x, .int .i64 y]) (t := 26) (fr := (0, 0)) (heap_alloc_new wd (.cells #[.int .i64 x, .int .i64 y] 26)))
      generalize wd.alloc (.cells #[.int .i64 x, .int .i64 y] 26) = w3 at *
      refine wpLex_move (by rfl) (by rfl) ?_
      refine wpList_append_atW _ rfl (.tmp 12) (.tmp 23) 22 rfl w.heap.size 26 i0 _ 2 16 Try.underlying22 HI0.out.1 HI0.out.2.1 HI0.out.2.2.1 HI0.out.2.2.2 rfl (by omega) u3 k _ rfl HO3.out ⟨wd.heap.size, 0, none⟩ 1 1 [.int .i64 x, .int .i64 y] rfl rfl HNW.out (by simp [Value.oneCell']) (.inr (by omega)) (by simp [maxLen]; omega) (by omega) (HE3.out.size) ?_
      intro g cap w4 hown hgr hgg
      go_wp2_with fail
      refine And.intro (inX_grown HX3.out hgr (fun g hg => by simpa using hg)) ?_
      repeat (refine wpLex_still (by rfl) ?_; go_big_quiet_step (fail); refine wpQuiet_nil ?_)
      refine wpLex_nil ?_
      have HO4 : Hid (Ext w w4 ∧ w4.ownsRow w.heap.size 26 2 (.slice (some ⟨g, 0, none⟩) (k + 1) cap) (k + 1) (stepCells (stepsTo zs (k + 1)))) := by
        refine ⟨ext_grownW HE3.out hgr (fun g hg => (own_lt HO3.out hg).2), ?_⟩
        rw [HT.out, stepCells_append]
        exact hown
      clear hown hgr hgg HO3 HO2 HNW HX3 x0 x1
      go_wp2_with fail
      go_roundw
      case rel => exact ⟨k + 1, by omega, by have := HJ.out.1; subst this; go_num, HO4.out.1, HO4.out.2⟩
      case measure => simp [intOf]; have := HJ.out; omega
    · have hbv : decide (((2 * k : Nat) : Int) + 1 < ((2 * h2 : Nat) : Int)) = false := by simp; omega
      have hkh : k = h2 := by omega
      subst hkh
      obtain ⟨hE, hown⟩ := HI.out
      obtain ⟨A', c', rfl, h1, h3, h4⟩ := own_steps hown
      have HH := Lib.hid h4
      have HEX := Lib.hid hE
      clear HI hown h4 hE
      go_wp2_with fail
      go_ret
      exact ⟨_, _, rfl, HH.out, h1, h3, HEX.out⟩

set_option maxRecDepth 100000 in
theorem lwhole_any (z : Int) (w : World) (hz : I64r z) : Calls Try.prog 14 #[.int .i64 z] w (RetQ w (z : Rat)) := by
  go_enter Try.func14, Try.ntmps14
  go_wp2_with fail
  have k0 := Cell4.new w _ rfl (.bool false) (.slice none 0 0) (.bool false) (.slice none 0 0) 33
  have hE : Ext w (w.alloc (.cells #[.bool false, .slice none 0 0, .bool false, .slice none 0 0] 33)) := Ext.al Ext.rfl' _
  generalize w.alloc (.cells #[.bool false, .slice none 0 0, .bool false, .slice none 0 0] 33) = w1 at *
  have hsz : w.heap.size < w1.heap.size := k0.2.2
  refine (rint_any z w1 hz).mono ?_
  rintro e w2 ⟨s, A, n, c, t, B, m, d, rfl, hQ, hE2⟩
  obtain ⟨⟨c0, c1, c2, c3⟩, ⟨f0, f1, f2, f3⟩, hl⟩ := k0.ext hE2
  have HQ := Lib.hid hQ
  have HE := Lib.hid (Ext.trans hE hE2)
  clear hQ hE hE2 k0
  go_wp2_with fail
  refine bodyPost_ret (v := .agg #[.bool s, .slice A n c, .bool t, .slice B m d]) (by simp [results, Try.results14, go_sem, c0, c1, c2, c3]) rfl ?_
  exact ⟨_, _, _, _, _, _, _, _, rfl, retQ_fill (Nat.le_refl _) hsz HQ.out HE.out _ _ _ _⟩
theorem nat_le_of_sz {w : World} {B0 : Nat} {s : Bool} {A : Option Addr} {n c : Nat} {t : Bool} {B : Option Addr} {m d : Nat} {q : Rat} (h : QCan w B0 s A n c t B m d q) {k l : Nat} (hk : Sz k q) (hl : k ≤ l) : n ≤ l ∧ m ≤ l := ⟨Nat.le_trans (h.len hk).1 hl, Nat.le_trans (h.len hk).2 hl⟩

set_option maxRecDepth 100000 in
set_option maxHeartbeats 2000000 in
theorem costs_any (A : Option Addr) (n c : Nat) (xs : List (Int × Int)) (s1 : Bool) (A1 : Option Addr) (n1 c1 : Nat) (t1 : Bool) (B1 : Option Addr) (m1 d1 : Nat) (q : Rat) (s2 : Bool) (A2 : Option Addr) (n2 c2 : Nat) (t2 : Bool) (B2 : Option Addr) (m2 d2 : Nat) (p : Rat) (b2 : Nat) (w : World) (hs : StepsAt w A n xs) (hn : n ≤ maxLen) (h1 : QIs w s1 A1 n1 c1 t1 B1 m1 d1 q) (l1 : n1 ≤ 1000) (l2 : m1 ≤ 1000) (h2 : QCan w b2 s2 A2 n2 c2 t2 B2 m2 d2 p) :
    Calls Try.prog 13 #[.slice A n c, .agg #[.bool s1, .slice A1 n1 c1, .bool t1, .slice B1 m1 d1], .agg #[.bool s2, .slice A2 n2 c2, .bool t2, .slice B2 m2 d2]] w fun e w' => e = .returned (.bool (decide (allocE xs q = 0 ∧ costV xs q = p))) ∧ Ext w w' := by
  have HSZ : Hid (Sz 1000 q) := h1.sz l1 l2 (by omega)
  go_enter Try.func13, Try.ntmps13
  go_wp2_with fail
  obtain ⟨k1, k2, hE⟩ := boxQ2 w (.bool s1) (.slice A1 n1 c1) (.bool t1) (.slice B1 m1 d1) (.bool s2) (.slice A2 n2 c2) (.bool t2) (.slice B2 m2 d2) 33
  generalize (w.alloc (.cells #[.bool s1, .slice A1 n1 c1, .bool t1, .slice B1 m1 d1] 33)).alloc (.cells #[.bool s2, .slice A2 n2 c2, .bool t2, .slice B2 m2 d2] 33) = w1 at *
  refine (cost_any A n c xs s1 A1 n1 c1 t1 B1 m1 d1 q w1 (hs.below hE) hn (h1.ext hE) l1 l2).mono ?_
  rintro e w2 ⟨s, A', n', c', t, B', m', d', rfl, hQ, hE2⟩
  have K2 := Lib.hid (k2.ext hE2)
  have HE := Lib.hid (Ext.trans hE hE2)
  have HQ := Lib.hid hQ
  have H2 := Lib.hid (h2.ext HE.out)
  have hl : w.heap.size + 1 < w2.heap.size := K2.out.2.2
  obtain ⟨ll1, ll2⟩ := hQ.len (sz_costV HSZ.out)
  obtain ⟨⟨g0, g1, g2, g3⟩, _, _⟩ := K2.out
  clear k1 k2 hE hE2 hQ h1 h2 hs
  by_cases h0 : allocE xs q = 0
  · rw [h0]
    go_wp2_with fail
    have hE3 : Ext w2 (w2.alloc (.cells #[.bool s, .slice A' n' c', .bool t, .slice B' m' d'] 33)) := Ext.al Ext.rfl' _
    generalize w2.alloc (.cells #[.bool s, .slice A' n' c', .bool t, .slice B' m' d'] 33) = w3 at *
    refine (ris_any s A' n' c' t B' m' d' _ s2 A2 n2 c2 t2 B2 m2 d2 p _ _ w3 (HQ.out.ext hE3) (H2.out.ext hE3) (by omega) (by omega)).mono ?_
    rintro e w4 ⟨rfl, hE4⟩
    have HB : Hid (decide (costV xs q = p) = decide (allocE xs q = 0 ∧ costV xs q = p)) := decide_eq_decide.2 ⟨fun h => ⟨h0, h⟩, fun h => h.2⟩
    rw [HB.out]
    obtain ⟨bb, hbb⟩ : ∃ v, decide (allocE xs q = 0 ∧ costV xs q = p) = v := ⟨_, rfl⟩
    have HBB := Lib.hid hbb
    rw [hbb]
    clear hbb HB
    have HEF := Lib.hid (Ext.trans HE.out (Ext.trans hE3 hE4))
    clear h0
    go_wp2_with fail
    go_ret
    exact ⟨ret_bool' HBB.out.symm, HEF.out⟩
  · have hb : (allocE xs q == 0) = false := by simp [h0]
    have HB : Hid (decide (allocE xs q = 0 ∧ costV xs q = p) = false) := decide_eq_false (fun e => h0 e.1)
    obtain ⟨ae, hae⟩ : ∃ v, allocE xs q = v := ⟨_, rfl⟩
    rw [hae] at hb ⊢
    clear h0 hae
    go_wp2_with fail
    go_ret
    exact ⟨ret_bool' HB.out.symm, Ext.al HE.out _⟩

set_option maxRecDepth 100000 in
set_option maxHeartbeats 2000000 in
theorem wanted_off (A : Option Addr) (n c : Nat) (xs : List (Int × Int)) (s1 : Bool) (A1 : Option Addr) (n1 c1 : Nat) (t1 : Bool) (B1 : Option Addr) (m1 d1 : Nat) (q : Rat) (l m : Int) (w : World) (hs : StepsAt w A n xs) (hn : n ≤ maxLen) (h1 : QArg w s1 A1 n1 c1 t1 B1 m1 d1 q) :
    Calls Try.prog 30 #[.slice A n c, .agg #[.bool s1, .slice A1 n1 c1, .bool t1, .slice B1 m1 d1], .bool false, .int .i64 l, .int .i64 m] w fun e w' => e = .returned (.bool (decide (chk true xs = 0 ∧ wantL true xs q = l ∧ wantM true xs q = m))) ∧ Ext w w' := by
  go_enter Try.func30, Try.ntmps30
  go_wp2_with fail
  have k0 := Cell4.new w _ rfl (.bool s1) (.slice A1 n1 c1) (.bool t1) (.slice B1 m1 d1) 33
  have hE : Ext w (w.alloc (.cells #[.bool s1, .slice A1 n1 c1, .bool t1, .slice B1 m1 d1] 33)) := Ext.al Ext.rfl' _
  generalize w.alloc (.cells #[.bool s1, .slice A1 n1 c1, .bool t1, .slice B1 m1 d1] 33) = w1 at *
  refine (supply_any A n c xs s1 A1 n1 c1 t1 B1 m1 d1 q w1 (hs.below hE) hn (h1.ext hE)).mono ?_
  rintro e w2 ⟨rfl, hE2⟩
  have HE2 := Lib.hid (Ext.trans hE hE2)
  obtain ⟨⟨g0, g1, g2, g3⟩, _, _⟩ := k0.ext hE2
  have HE := Lib.hid HE2.out
  obtain ⟨b, hb⟩ : ∃ b, decide (chk true xs = 0 ∧ wantL true xs q = l ∧ wantM true xs q = m) = b := ⟨_, rfl⟩
  have HB := Lib.hid hb
  clear hb
  obtain ⟨e1, he1⟩ : ∃ v, chk true xs = v := ⟨_, rfl⟩
  obtain ⟨l1, hl1⟩ : ∃ v, wantL true xs q = v := ⟨_, rfl⟩
  obtain ⟨m2, hm2⟩ : ∃ v, wantM true xs q = v := ⟨_, rfl⟩
  rw [he1, hl1, hm2]
  have HV := Lib.hid (And.intro he1 (And.intro hl1 hm2))
  clear he1 hl1 hm2 k0 hE hs h1
  by_cases d1 : e1 = 0
  · have hx1 : (e1 == 0) = true := by simp [d1]
    by_cases d2 : l1 = l
    · have hx2 : (l1 == l) = true := by simp [d2]
      by_cases d3 : m2 = m
      · have HR : Hid (decide (chk true xs = 0 ∧ wantL true xs q = l ∧ wantM true xs q = m) = true) := by unfold Hid; rw [HV.out.1, HV.out.2.1, HV.out.2.2]; simp [d1, d2, d3]
        have hx3 : (m2 == m) = true := by simp [d3]
        subst d1 d2 d3
        go_wp2_with fail
        go_ret
        exact ⟨ret_bool' HR.out.symm, HE.out⟩
      · have HR : Hid (decide (chk true xs = 0 ∧ wantL true xs q = l ∧ wantM true xs q = m) = false) := by unfold Hid; rw [HV.out.1, HV.out.2.1, HV.out.2.2]; simp [d1, d2, d3]
        have hx3 : (m2 == m) = false := by simp [d3]
        subst d1 d2
        clear d3
        go_wp2_with fail
        go_ret
        exact ⟨ret_bool' HR.out.symm, HE.out⟩
    · have HR : Hid (decide (chk true xs = 0 ∧ wantL true xs q = l ∧ wantM true xs q = m) = false) := by unfold Hid; rw [HV.out.1, HV.out.2.1, HV.out.2.2]; simp [d1, d2]
      have hx2 : (l1 == l) = false := by simp [d2]
      subst d1
      clear d2
      go_wp2_with fail
      go_ret
      exact ⟨ret_bool' HR.out.symm, HE.out⟩
  · have HR : Hid (decide (chk true xs = 0 ∧ wantL true xs q = l ∧ wantM true xs q = m) = false) := by unfold Hid; rw [HV.out.1, HV.out.2.1, HV.out.2.2]; simp [d1]
    have hx1 : (e1 == 0) = false := by simp [d1]
    clear d1
    go_wp2_with fail
    go_ret
    exact ⟨ret_bool' HR.out.symm, HE.out⟩

set_option maxRecDepth 100000 in
set_option maxHeartbeats 2000000 in
theorem wanted_bid (A : Option Addr) (n c : Nat) (xs : List (Int × Int)) (s1 : Bool) (A1 : Option Addr) (n1 c1 : Nat) (t1 : Bool) (B1 : Option Addr) (m1 d1 : Nat) (q : Rat) (l m : Int) (w : World) (hs : StepsAt w A n xs) (hn : n ≤ maxLen) (h1 : QArg w s1 A1 n1 c1 t1 B1 m1 d1 q) :
    Calls Try.prog 30 #[.slice A n c, .agg #[.bool s1, .slice A1 n1 c1, .bool t1, .slice B1 m1 d1], .bool true, .int .i64 l, .int .i64 m] w fun e w' => e = .returned (.bool (decide (chk false xs = 0 ∧ wantL false xs q = l ∧ wantM false xs q = m))) ∧ Ext w w' := by
  go_enter Try.func30, Try.ntmps30
  go_wp2_with fail
  have k0 := Cell4.new w _ rfl (.bool s1) (.slice A1 n1 c1) (.bool t1) (.slice B1 m1 d1) 33
  have hE : Ext w (w.alloc (.cells #[.bool s1, .slice A1 n1 c1, .bool t1, .slice B1 m1 d1] 33)) := Ext.al Ext.rfl' _
  generalize w.alloc (.cells #[.bool s1, .slice A1 n1 c1, .bool t1, .slice B1 m1 d1] 33) = w1 at *
  refine (supply_any A n c xs s1 A1 n1 c1 t1 B1 m1 d1 q w1 (hs.below hE) hn (h1.ext hE)).mono ?_
  rintro e w2 ⟨rfl, hE2⟩
  have HE2 := Lib.hid (Ext.trans hE hE2)
  obtain ⟨⟨g0, g1, g2, g3⟩, _, _⟩ := k0.ext hE2
  generalize wantL true xs q = l0 at *
  generalize wantM true xs q = m0 at *
  generalize chk true xs = e0 at *
  go_wp2_with fail
  refine (demand_any A n c xs s1 A1 n1 c1 t1 B1 m1 d1 q w2 (hs.below HE2.out) hn (h1.ext HE2.out)).mono ?_
  rintro e w3 ⟨rfl, hE3⟩
  have HE := Lib.hid (Ext.trans HE2.out hE3)
  obtain ⟨b, hb⟩ : ∃ b, decide (chk false xs = 0 ∧ wantL false xs q = l ∧ wantM false xs q = m) = b := ⟨_, rfl⟩
  have HB := Lib.hid hb
  clear hb
  obtain ⟨e1, he1⟩ : ∃ v, chk false xs = v := ⟨_, rfl⟩
  obtain ⟨l1, hl1⟩ : ∃ v, wantL false xs q = v := ⟨_, rfl⟩
  obtain ⟨m2, hm2⟩ : ∃ v, wantM false xs q = v := ⟨_, rfl⟩
  rw [he1, hl1, hm2]
  have HV := Lib.hid (And.intro he1 (And.intro hl1 hm2))
  clear he1 hl1 hm2 k0 hE hs h1
  by_cases d1 : e1 = 0
  · have hx1 : (e1 == 0) = true := by simp [d1]
    by_cases d2 : l1 = l
    · have hx2 : (l1 == l) = true := by simp [d2]
      by_cases d3 : m2 = m
      · have HR : Hid (decide (chk false xs = 0 ∧ wantL false xs q = l ∧ wantM false xs q = m) = true) := by unfold Hid; rw [HV.out.1, HV.out.2.1, HV.out.2.2]; simp [d1, d2, d3]
        have hx3 : (m2 == m) = true := by simp [d3]
        subst d1 d2 d3
        go_wp2_with fail
        go_ret
        exact ⟨ret_bool' HR.out.symm, HE.out⟩
      · have HR : Hid (decide (chk false xs = 0 ∧ wantL false xs q = l ∧ wantM false xs q = m) = false) := by unfold Hid; rw [HV.out.1, HV.out.2.1, HV.out.2.2]; simp [d1, d2, d3]
        have hx3 : (m2 == m) = false := by simp [d3]
        subst d1 d2
        clear d3
        go_wp2_with fail
        go_ret
        exact ⟨ret_bool' HR.out.symm, HE.out⟩
    · have HR : Hid (decide (chk false xs = 0 ∧ wantL false xs q = l ∧ wantM false xs q = m) = false) := by unfold Hid; rw [HV.out.1, HV.out.2.1, HV.out.2.2]; simp [d1, d2]
      have hx2 : (l1 == l) = false := by simp [d2]
      subst d1
      clear d2
      go_wp2_with fail
      go_ret
      exact ⟨ret_bool' HR.out.symm, HE.out⟩
  · have HR : Hid (decide (chk false xs = 0 ∧ wantL false xs q = l ∧ wantM false xs q = m) = false) := by unfold Hid; rw [HV.out.1, HV.out.2.1, HV.out.2.2]; simp [d1]
    have hx1 : (e1 == 0) = false := by simp [d1]
    clear d1
    go_wp2_with fail
    go_ret
    exact ⟨ret_bool' HR.out.symm, HE.out⟩

theorem crv_or (xs : List (Int × Int)) : (chk true xs = 0 ∨ chk false xs = 0) ↔ crv xs = 0 := by
  unfold crv
  by_cases h : chk false xs = 0
  · simp [h]
  · simp [h]

set_option maxRecDepth 100000 in
set_option maxHeartbeats 2000000 in
theorem curve_any (A : Option Addr) (n c : Nat) (xs : List (Int × Int)) (w : World) (hs : StepsAt w A n xs) (hn : n ≤ maxLen) :
    Calls Try.prog 10 #[.slice A n c] w fun e w' => e = .returned (.bool (decide (crv xs = 0))) ∧ Ext w w' := by
  have HC := Lib.hid (crv_or xs)
  go_enter Try.func10, Try.ntmps10
  go_wp2_with fail
  refine (checkOffer_any A n c xs w hs hn).mono ?_
  rintro e w1 ⟨rfl, hE⟩
  by_cases h1 : chk true xs = 0
  · rw [h1]
    have HR : Hid (decide (crv xs = 0) = true) := decide_eq_true (HC.out.1 (.inl h1))
    go_wp2_with fail
    go_ret
    exact ⟨ret_bool' HR.out.symm, hE⟩
  · have hb : (chk true xs == 0) = false := by simp [h1]
    obtain ⟨cv, hcv⟩ : ∃ v, chk true xs = v := ⟨_, rfl⟩
    have HCV := Lib.hid hcv
    rw [hcv] at hb ⊢
    clear h1 hcv
    go_wp2_with fail
    refine (checkBid_any A n c xs w1 (hs.below hE) hn).mono ?_
    rintro e w2 ⟨rfl, hE2⟩
    by_cases h2 : chk false xs = 0
    · rw [h2]
      have HR : Hid (decide (crv xs = 0) = true) := decide_eq_true (HC.out.1 (.inr h2))
      go_wp2_with fail
      go_ret
      exact ⟨ret_bool' HR.out.symm, Ext.trans hE hE2⟩
    · have hb2 : (chk false xs == 0) = false := by simp [h2]
      have HR : Hid (decide (crv xs = 0) = false) := decide_eq_false (fun e => by
        rcases HC.out.2 e with h | h
        · rw [HCV.out] at h
          simp [h] at hb
        · exact h2 h)
      obtain ⟨cv2, hcv2⟩ : ∃ v, chk false xs = v := ⟨_, rfl⟩
      rw [hcv2] at hb2 ⊢
      clear h2 hcv2
      go_wp2_with fail
      go_ret
      exact ⟨ret_bool' HR.out.symm, Ext.trans hE hE2⟩
end Go.Proofs.Ytppcpklnnbgcjaa

namespace Go.Proofs.Ytppcpklnnbgcjaa
open Go.RowKit

/-- At this place of memory lies a rational with these lengths. -/
def LenAt (w : World) (g off n m : Nat) : Prop := ∃ (A : Option Addr) (c : Nat) (B : Option Addr) (d : Nat), w.cell? ⟨g, off + 1, none⟩ = some (.slice A n c) ∧ w.cell? ⟨g, off + 3, none⟩ = some (.slice B m d)

def RetLong (w : World) (k : Nat) (ln : Nat → Nat × Nat) (e : Ending) (w' : World) : Prop := (∃ b, e = .returned (.bool b) ∧ (b = false ↔ ∀ i, i < k → (ln i).1 ≤ 6 ∧ (ln i).2 ≤ 6)) ∧ Ext w w'

set_option maxRecDepth 100000 in
set_option maxHeartbeats 2000000 in
theorem long_any (g k c : Nat) (ln : Nat → Nat × Nat) (w : World) (h : ∀ i, i < k → LenAt w g (i * 4) (ln i).1 (ln i).2) (hk : k ≤ 10) (hb : ∀ i, (ln i).1 ≤ maxLen ∧ (ln i).2 ≤ maxLen) :
    Calls Try.prog 15 #[.slice (some ⟨g, 0, none⟩) k c] w (RetLong w k ln) := by
  have H := Lib.hid h
  clear h
  go_enter Try.func15, Try.ntmps15
  go_wp2_with fail
  go_loop [3] (fun i => ∃ j : Nat, j ≤ k ∧ i = .int .i64 j ∧ Hid (∀ x, x < j → (ln x).1 ≤ 6 ∧ (ln x).2 ≤ 6)) (fun i => k - (intOf i).toNat)
  case atStart => exact ⟨0, by omega, rfl, fun x hx => by omega⟩
  case round =>
    obtain ⟨j, hj, rfl, HI⟩ := hrel
    by_cases hlt : j < k
    · have hbv : decide ((j : Int) < (k : Int)) = true := by simp; omega
      obtain ⟨A, c', B, d', h1, h2⟩ := H.out j hlt
      have hb1 := hb j
      simp only [maxLen] at hb1
      have HN : Hid (((ln j).1 ≤ 6 ∧ (ln j).2 ≤ 6) → ∀ x, x < j + 1 → (ln x).1 ≤ 6 ∧ (ln x).2 ≤ 6) := fun e x hx => by
        by_cases hx2 : x = j
        · rw [hx2]; exact e
        · exact HI.out x (by omega)
      have HW : Hid ((¬ ((ln j).1 ≤ 6 ∧ (ln j).2 ≤ 6)) → ¬ ∀ i, i < k → (ln i).1 ≤ 6 ∧ (ln i).2 ≤ 6) := fun e hh => e (hh j hlt)
      generalize (ln j).1 = n at *
      generalize (ln j).2 = m at *
      obtain ⟨hn1, hm1⟩ := hb1
      have hz0 : (0 : Int) ≤ (j : Int) := by omega
      have hzn : (j : Int) < (k : Int) := by omega
      by_cases e1 : 6 < n
      · have hx1 : decide ((6 : Int) < (n : Int)) = true := by simp; omega
        have hx2 : decide (6 < n) = true := by simp; omega
        have HF : Hid (¬ ∀ i, i < k → (ln i).1 ≤ 6 ∧ (ln i).2 ≤ 6) := HW.out (by omega)
        clear HN HW HI
        go_wp2_with fail
        go_ret
        exact ⟨⟨true, rfl, by simpa using HF.out⟩, Ext.rfl'⟩
      · have hx1 : decide ((6 : Int) < (n : Int)) = false := by simp; omega
        have hx2 : decide (6 < n) = false := by simp; omega
        by_cases e2 : 6 < m
        · have hy1 : decide ((6 : Int) < (m : Int)) = true := by simp; omega
          have hy2 : decide (6 < m) = true := by simp; omega
          have HF : Hid (¬ ∀ i, i < k → (ln i).1 ≤ 6 ∧ (ln i).2 ≤ 6) := HW.out (by omega)
          clear HN HW HI
          go_wp2_with fail
          go_ret
          exact ⟨⟨true, rfl, by simpa using HF.out⟩, Ext.rfl'⟩
        · have hy1 : decide ((6 : Int) < (m : Int)) = false := by simp; omega
          have hy2 : decide (6 < m) = false := by simp; omega
          have HF := Lib.hid (HN.out ⟨by omega, by omega⟩)
          clear HN HW HI
          go_wp2_with fail
          go_round
          case rel => exact ⟨j + 1, by omega, by go_num, HF.out⟩
          case measure => simp [intOf]; omega
    · have hbv : decide ((j : Int) < (k : Int)) = false := by simp; omega
      have HF := Lib.hid HI.out
      clear HI
      go_wp2_with fail
      go_ret
      exact ⟨⟨false, rfl, by simp; exact fun i hi => HF.out i (by omega)⟩, Ext.rfl'⟩
end Go.Proofs.Ytppcpklnnbgcjaa
