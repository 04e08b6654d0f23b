/- Memory of package uplift's arguments; contracts of uplift.element, pylonref33.At, pylonlaw37.is, ex. Printed by gen_upb.py. -/
import Derived.Test.YtfokholpgakjpaaUpP
import Derived.Test.YtfokholpgakjpaaDivR
import Derived.Test.YtfokholpgakjpaaVarT
import Derived.Deep.Cut
namespace Go.Proofs.Ytfokholpgakjpaa
open Go.RowKit

/-- Block g holds the unit. -/
def UBox (w : World) (g : Nat) (u : U) (A : Option Addr) (n c : Nat) : Prop :=
  w.cell? ⟨g, 0, none⟩ = some (.int .i64 u.bus) ∧ w.cell? ⟨g, 1, none⟩ = some (.int .i64 u.mn) ∧ w.cell? ⟨g, 2, none⟩ = some (.slice A n c) ∧ w.cell? ⟨g, 3, none⟩ = some (.int .i64 u.up) ∧ w.cell? ⟨g, 4, none⟩ = some (.int .i64 u.down) ∧
  w.cell? ⟨g, 5, none⟩ = some (.int .i64 u.start) ∧ w.cell? ⟨g, 6, none⟩ = some (.int .i64 u.idle) ∧ w.cell? ⟨g, 7, none⟩ = some (.int .i64 u.spin) ∧ w.cell? ⟨g, 8, none⟩ = some (.int .i64 u.on)
theorem UBox.new (w : World) (g : Nat) (hg : w.heap.size = g) (u : U) (A : Option Addr) (n c : Nat) (t : TypeId) : UBox (w.alloc (.cells #[.int .i64 u.bus, .int .i64 u.mn, .slice A n c, .int .i64 u.up, .int .i64 u.down, .int .i64 u.start, .int .i64 u.idle, .int .i64 u.spin, .int .i64 u.on] t)) g u A n c := by
  subst hg
  refine ⟨?_, ?_, ?_, ?_, ?_, ?_, ?_, ?_, ?_⟩ <;> simp [go_sem]
theorem UBox.ext {w w' : World} {g : Nat} {u : U} {A : Option Addr} {n c : Nat} (h : UBox w g u A n c) (hb : Ext w w') : UBox w' g u A n c := by
  obtain ⟨h0, h1, h2, h3, h4, h5, h6, h7, h8⟩ := h
  exact ⟨Ext.cellOf hb h0, Ext.cellOf hb h1, Ext.cellOf hb h2, Ext.cellOf hb h3, Ext.cellOf hb h4, Ext.cellOf hb h5, Ext.cellOf hb h6, Ext.cellOf hb h7, Ext.cellOf hb h8⟩
theorem UBox.put {w : World} {g : Nat} {u : U} {A : Option Addr} {n c : Nat} (h : UBox w g u A n c) {g' : Nat} (hne : g' ≠ g) (off : Nat) (v : Value) : UBox (w.setCell ⟨g', off, none⟩ v) g u A n c := by
  have e : ∀ i, (w.setCell ⟨g', off, none⟩ v).cell? ⟨g, i, none⟩ = w.cell? ⟨g, i, none⟩ := fun i => World.cell?_setCell_other _ _ _ _ (by intro hh; injection hh; omega)
  obtain ⟨h0, h1, h2, h3, h4, h5, h6, h7, h8⟩ := h
  exact ⟨(e 0).trans h0, (e 1).trans h1, (e 2).trans h2, (e 3).trans h3, (e 4).trans h4, (e 5).trans h5, (e 6).trans h6, (e 7).trans h7, (e 8).trans h8⟩
theorem UBox.put4 {w : World} {g : Nat} {u : U} {A : Option Addr} {n c : Nat} (h : UBox w g u A n c) {g' : Nat} (hne : g' ≠ g) (off : Nat) (v0 v1 v2 v3 : Value) : UBox (put4 w g' off v0 v1 v2 v3) g u A n c := (((h.put hne _ _).put hne _ _).put hne _ _).put hne _ _
/-- The slice with address P and length n holds these rationals, none of more than K words. -/
def QsK (K : Nat) (w : World) (P : Option Addr) (n : Nat) (ps : List Rat) : Prop :=
  ps.length = n ∧ (0 < n → ∃ b off, P = some ⟨b, off, none⟩ ∧ b < w.heap.size ∧ ∀ i, i < n → ∃ (s : Bool) (A : Option Addr) (m c : Nat) (t : Bool) (B : Option Addr) (k d : Nat),
    w.cell? ⟨b, off + i * 4, none⟩ = some (.bool s) ∧ w.cell? ⟨b, off + i * 4 + 1, none⟩ = some (.slice A m c) ∧ w.cell? ⟨b, off + i * 4 + 2, none⟩ = some (.bool t) ∧ w.cell? ⟨b, off + i * 4 + 3, none⟩ = some (.slice B k d) ∧
    QIs w s A m c t B k d (ps.getD i 0) ∧ m ≤ K ∧ k ≤ K)
theorem QsK.ext {K : Nat} {w w' : World} {P : Option Addr} {n : Nat} {ps : List Rat} (h : QsK K w P n ps) (hb : Ext w w') : QsK K w' P n ps := by
  refine ⟨h.1, fun hn => ?_⟩
  obtain ⟨b, off, ha, hlt, hc⟩ := h.2 hn
  refine ⟨b, off, ha, Nat.lt_of_lt_of_le hlt hb.size, fun i hi => ?_⟩
  obtain ⟨s, A, m, c, t, B, k, d, h0, h1, h2, h3, h4, h5⟩ := hc i hi
  exact ⟨s, A, m, c, t, B, k, d, Ext.cellOf hb h0, Ext.cellOf hb h1, Ext.cellOf hb h2, Ext.cellOf hb h3, h4.ext hb, h5⟩
theorem QsK.mono {K L : Nat} {w : World} {P : Option Addr} {n : Nat} {ps : List Rat} (h : QsK K w P n ps) (hl : K ≤ L) : QsK L w P n ps := by
  refine ⟨h.1, fun hn => ?_⟩
  obtain ⟨b, off, ha, hlt, hc⟩ := h.2 hn
  refine ⟨b, off, ha, hlt, fun i hi => ?_⟩
  obtain ⟨s, A, m, c, t, B, k, d, h0, h1, h2, h3, h4, h5, h6⟩ := hc i hi
  exact ⟨s, A, m, c, t, B, k, d, h0, h1, h2, h3, h4, by omega, by omega⟩
theorem QsK.sz {K : Nat} {w : World} {P : Option Addr} {n : Nat} {ps : List Rat} (h : QsK K w P n ps) (hK : 0 < K) (i : Nat) : Sz K (ps.getD i 0) := by
  by_cases hi : i < n
  · obtain ⟨b, off, ha, hlt, hc⟩ := h.2 (by omega)
    obtain ⟨s, A, m, c, t, B, k, d, h0, h1, h2, h3, h4, h5, h6⟩ := hc i hi
    exact h4.sz h5 h6 hK
  · rw [show ps.getD i 0 = 0 by simp [List.getD, show ps.length ≤ i by have := h.1; omega]]
    exact sz_zero.mono (by omega)
theorem QsK.nil (K : Nat) (w : World) : QsK K w none 0 [] := ⟨rfl, fun h => absurd h (by omega)⟩
theorem getD_dropU {α : Type} (xs : List α) (j i : Nat) (d : α) : (xs.drop j).getD i d = xs.getD (j + i) d := by simp [List.getD, List.getElem?_drop]
theorem getD_takeU {α : Type} (xs : List α) {j i : Nat} (d : α) (h : i < j) : (xs.take j).getD i d = xs.getD i d := by simp [List.getD, List.getElem?_take, h]
theorem BoolsAt.takeU {w : World} {A : Option Addr} {n : Nat} {xs : List Bool} (h : BoolsAt w A n xs) {j : Nat} (hj : j ≤ n) : BoolsAt w A j (xs.take j) := by
  refine ⟨by rw [List.length_take, h.1]; omega, fun hn => ?_⟩
  obtain ⟨b, off, ha, hlt, hc⟩ := h.2 (by omega)
  exact ⟨b, off, ha, hlt, fun i hi => by rw [getD_takeU _ _ hi]; exact hc i (by omega)⟩
theorem BoolsAt.dropU {w : World} {b off : Nat} {n : Nat} {xs : List Bool} (h : BoolsAt w (some ⟨b, off, none⟩) n xs) {j : Nat} (hj : j ≤ n) : BoolsAt w (some ⟨b, off + j, none⟩) (n - j) (xs.drop j) := by
  refine ⟨by rw [List.length_drop, h.1], fun hn => ?_⟩
  obtain ⟨b', off', ha, hlt, hc⟩ := h.2 (by omega)
  injection ha with ha
  injection ha with ha1 ha2
  subst ha1 ha2
  exact ⟨b, off + j, rfl, hlt, fun i hi => by rw [getD_dropU, Nat.add_assoc]; exact hc (j + i) (by omega)⟩
theorem QsK.takeU {K : Nat} {w : World} {P : Option Addr} {n : Nat} {ps : List Rat} (h : QsK K w P n ps) {j : Nat} (hj : j ≤ n) : QsK K w P j (ps.take j) := by
  refine ⟨by rw [List.length_take, h.1]; omega, fun hn => ?_⟩
  obtain ⟨b, off, ha, hlt, hc⟩ := h.2 (by omega)
  refine ⟨b, off, ha, hlt, fun i hi => ?_⟩
  obtain ⟨s, A, m, c, t, B, k, d, h0, h1, h2, h3, h4, h5⟩ := hc i (by omega)
  exact ⟨s, A, m, c, t, B, k, d, h0, h1, h2, h3, by rw [getD_takeU _ _ hi]; exact h4, h5⟩
theorem QsK.dropU {K : Nat} {w : World} {b off : Nat} {n : Nat} {ps : List Rat} (h : QsK K w (some ⟨b, off, none⟩) n ps) {j : Nat} (hj : j ≤ n) : QsK K w (some ⟨b, off + j * 4, none⟩) (n - j) (ps.drop j) := by
  refine ⟨by rw [List.length_drop, h.1], fun hn => ?_⟩
  obtain ⟨b', off', ha, hlt, hc⟩ := h.2 (by omega)
  injection ha with ha
  injection ha with ha1 ha2
  subst ha1 ha2
  refine ⟨b, off + j * 4, rfl, hlt, fun i hi => ?_⟩
  obtain ⟨s, A, m, c, t, B, k, d, h0, h1, h2, h3, h4, h5⟩ := hc (j + i) (by omega)
  have e : off + j * 4 + i * 4 = off + (j + i) * 4 := by rw [Nat.add_mul, Nat.add_assoc]
  exact ⟨s, A, m, c, t, B, k, d, by rw [e]; exact h0, by rw [e]; exact h1, by rw [e]; exact h2, by rw [e]; exact h3, by rw [getD_dropU]; exact h4, h5⟩
/-- A row that a call has made reads as data. -/
theorem PartsAt.qsK {K : Nat} {w : World} {B0 g n : Nat} {f : Nat → Rat} (h : PartsAt w B0 g n n f) {ps : List Rat} (hl : ps.length = n) (hf : ∀ i, i < n → f i = ps.getD i 0) (hz : ∀ i, i < n → Sz K (ps.getD i 0)) : QsK K w (some ⟨g, 0, none⟩) n ps := by
  refine ⟨hl, fun _ => ⟨g, 0, rfl, h.1.1, fun i hi => ?_⟩⟩
  obtain ⟨s, A, m, c, t, B, k, d, h0, h1, h2, h3, h4⟩ := h.2 i hi
  rw [hf i hi] at h4
  have := h4.len (hz i hi)
  refine ⟨s, A, m, c, t, B, k, d, by rw [Nat.zero_add]; exact h0, by rw [Nat.zero_add]; exact h1, by rw [Nat.zero_add]; exact h2, by rw [Nat.zero_add]; exact h3, h4.is, this.1, this.2⟩
/-- A rational of at most K words, in any form. -/
def RetEl (K : Nat) (w : World) (q : Rat) (e : Ending) (w' : World) : Prop := ∃ s A n c t B m d, e = .returned (.agg #[.bool s, .slice A n c, .bool t, .slice B m d]) ∧ QIs w' s A n c t B m d q ∧ n ≤ K ∧ m ≤ K ∧ Ext w w'
theorem retI_fill {w w1 : World} {r : Nat} {s : Bool} {A : Option Addr} {n c : Nat} {t : Bool} {B : Option Addr} {m d : Nat} {q : Rat} (hr : w.heap.size ≤ r) (hq : QIs w s A n c t B m d q) (hb : Ext w w1) (v0 v1 v2 v3 : Value) :
    QIs ((((w1.setCell ⟨r, 0, none⟩ v0).setCell ⟨r, 1, none⟩ v1).setCell ⟨r, 2, none⟩ v2).setCell ⟨r, 3, none⟩ v3) s A n c t B m d q ∧ Ext w ((((w1.setCell ⟨r, 0, none⟩ v0).setCell ⟨r, 1, none⟩ v1).setCell ⟨r, 2, none⟩ v2).setCell ⟨r, 3, none⟩ v3) := by
  have hE : Ext w ((((w1.setCell ⟨r, 0, none⟩ v0).setCell ⟨r, 1, none⟩ v1).setCell ⟨r, 2, none⟩ v2).setCell ⟨r, 3, none⟩ v3) := Below.setCell (Below.setCell (Below.setCell (Below.setCell hb (p := ⟨r, 0, none⟩) hr v0) (p := ⟨r, 1, none⟩) hr v1) (p := ⟨r, 2, none⟩) hr v2) (p := ⟨r, 3, none⟩) hr v3
  exact ⟨hq.ext hE, hE⟩

set_option maxRecDepth 100000 in
set_option maxHeartbeats 2000000 in
theorem element_any (K : Nat) (P : Option Addr) (k c : Nat) (ps : List Rat) (i : Nat) (w : World) (h : QsK K w P k ps) (hk : k ≤ 1000) (hi9 : i ≤ 1000) :
    Calls Try.prog 23 #[.slice P k c, .int .i64 (i : Int)] w (RetEl K w (ps.getD i 0)) := by
  have H := Lib.hid h
  clear h

  go_enter Try.func23, Try.ntmps23
  go_upto_region 1 with (fail)
  have kr := Cell4.new w _ rfl (.bool false) (.slice none 0 0) (.bool false) (.slice none 0 0) 30
  have hE : Ext w (w.alloc (.cells #[.bool false, .slice none 0 0, .bool false, .slice none 0 0] 30)) := Ext.al Ext.rfl' _
  generalize w.alloc (.cells #[.bool false, .slice none 0 0, .bool false, .slice none 0 0] 30) = w1 at *
  by_cases hlt : i < k
  · have hb : decide ((k : Int) ≤ (i : Int)) = false := by simp; omega
    have hb2 : decide (k ≤ i) = false := by simp; omega
    obtain ⟨b, off, rfl, hbl, hc⟩ := H.out.2 (by omega)
    obtain ⟨sx, Ax, nx, cx, tx, Bx, mx, dx, p0, p1, p2, p3, hq, l1, l2⟩ := hc i hlt
    have HQ := Lib.hid hq
    have x0 := Ext.cellOf hE p0
    have x1 := Ext.cellOf hE p1
    have x2 := Ext.cellOf hE p2
    have x3 := Ext.cellOf hE p3
    have hz0 : (0 : Int) ≤ (i : Int) := by omega
    have hzn : (i : Int) < (k : Int) := by omega
    clear hq hc H p0 p1 p2 p3
    obtain ⟨⟨e0, e1, e2, e3⟩, ⟨f0, f1, f2, f3⟩, ez⟩ := kr
    have zb := World.block_lt_of_cell? _ _ x0
    go_wp2_with fail
    refine bodyPost_ret (v := .agg #[.bool sx, .slice Ax nx cx, .bool tx, .slice Bx mx dx]) (by simp [results, Try.results23, go_sem, e0, e1, e2, e3]) rfl ?_
    exact ⟨_, _, _, _, _, _, _, _, rfl, (retI_fill (Nat.le_refl _) HQ.out hE _ _ _ _).1, l1, l2, (retI_fill (Nat.le_refl _) HQ.out hE _ _ _ _).2⟩
  · have hb : decide ((k : Int) ≤ (i : Int)) = true := by simp; omega
    have hb2 : decide (k ≤ i) = true := by simp; omega
    have HZ : Hid (ps.getD i 0 = 0) := by unfold Hid; simp [List.getD, show ps.length ≤ i by have := H.out.1; omega]
    clear H
    obtain ⟨⟨e0, e1, e2, e3⟩, ⟨f0, f1, f2, f3⟩, ez⟩ := kr
    go_wp2_with fail
    refine bodyPost_ret (v := .agg #[.bool false, .slice none 0 0, .bool false, .slice none 0 0]) (by simp [results, Try.results23, go_sem, e0, e1, e2, e3]) rfl ?_
    refine ⟨_, _, _, _, _, _, _, _, rfl, ?_, Nat.zero_le _, Nat.zero_le _, (retI_fill (Nat.le_refl _) (qcan_zero w 0).is hE _ _ _ _).2⟩
    rw [HZ.out]
    exact (retI_fill (Nat.le_refl _) (qcan_zero w 0).is hE _ _ _ _).1

set_option maxRecDepth 100000 in
set_option maxHeartbeats 2000000 in
theorem at33_any (K : Nat) (P : Option Addr) (k c : Nat) (ps : List Rat) (i : Nat) (w : World) (h : QsK K w P k ps) (hk : k ≤ 1000) (hi9 : i ≤ 1000) :
    Calls Try.prog 9 #[.slice P k c, .int .i64 (i : Int)] w (RetEl K w (ps.getD i 0)) := by
  have H := Lib.hid h
  clear h
  have hneg : decide ((i : Int) < 0) = false := by simp
  go_enter Try.func9, Try.ntmps9
  go_upto_region 1 with (fail)
  have kr := Cell4.new w _ rfl (.bool false) (.slice none 0 0) (.bool false) (.slice none 0 0) 30
  have hE : Ext w (w.alloc (.cells #[.bool false, .slice none 0 0, .bool false, .slice none 0 0] 30)) := Ext.al Ext.rfl' _
  generalize w.alloc (.cells #[.bool false, .slice none 0 0, .bool false, .slice none 0 0] 30) = w1 at *
  by_cases hlt : i < k
  · have hb : decide ((k : Int) ≤ (i : Int)) = false := by simp; omega
    have hb2 : decide (k ≤ i) = false := by simp; omega
    obtain ⟨b, off, rfl, hbl, hc⟩ := H.out.2 (by omega)
    obtain ⟨sx, Ax, nx, cx, tx, Bx, mx, dx, p0, p1, p2, p3, hq, l1, l2⟩ := hc i hlt
    have HQ := Lib.hid hq
    have x0 := Ext.cellOf hE p0
    have x1 := Ext.cellOf hE p1
    have x2 := Ext.cellOf hE p2
    have x3 := Ext.cellOf hE p3
    have hz0 : (0 : Int) ≤ (i : Int) := by omega
    have hzn : (i : Int) < (k : Int) := by omega
    clear hq hc H p0 p1 p2 p3
    obtain ⟨⟨e0, e1, e2, e3⟩, ⟨f0, f1, f2, f3⟩, ez⟩ := kr
    have zb := World.block_lt_of_cell? _ _ x0
    go_wp2_with fail
    refine bodyPost_ret (v := .agg #[.bool sx, .slice Ax nx cx, .bool tx, .slice Bx mx dx]) (by simp [results, Try.results9, go_sem, e0, e1, e2, e3]) rfl ?_
    exact ⟨_, _, _, _, _, _, _, _, rfl, (retI_fill (Nat.le_refl _) HQ.out hE _ _ _ _).1, l1, l2, (retI_fill (Nat.le_refl _) HQ.out hE _ _ _ _).2⟩
  · have hb : decide ((k : Int) ≤ (i : Int)) = true := by simp; omega
    have hb2 : decide (k ≤ i) = true := by simp; omega
    have HZ : Hid (ps.getD i 0 = 0) := by unfold Hid; simp [List.getD, show ps.length ≤ i by have := H.out.1; omega]
    clear H
    obtain ⟨⟨e0, e1, e2, e3⟩, ⟨f0, f1, f2, f3⟩, ez⟩ := kr
    go_wp2_with fail
    refine bodyPost_ret (v := .agg #[.bool false, .slice none 0 0, .bool false, .slice none 0 0]) (by simp [results, Try.results9, go_sem, e0, e1, e2, e3]) rfl ?_
    refine ⟨_, _, _, _, _, _, _, _, rfl, ?_, Nat.zero_le _, Nat.zero_le _, (retI_fill (Nat.le_refl _) (qcan_zero w 0).is hE _ _ _ _).2⟩
    rw [HZ.out]
    exact (retI_fill (Nat.le_refl _) (qcan_zero w 0).is hE _ _ _ _).1
end Go.Proofs.Ytfokholpgakjpaa
