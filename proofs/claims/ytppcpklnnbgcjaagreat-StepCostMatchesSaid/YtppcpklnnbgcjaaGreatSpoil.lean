/- Contracts of pylonlaw23.spoil and pylonref23.Same; a copy of steps. Printed by gen_spoil.py. -/
import Derived.Test.YtppcpklnnbgcjaaGreatRefS
import Derived.Test.YtppcpklnnbgcjaaGreatLaw23B
namespace Go.Proofs.YtppcpklnnbgcjaaGreat
open Go.RowKit

/-- From w to w' only words in blocks from B on have turned. -/
structure Spoilt (B : Nat) (w w' : World) : Prop where
  other : ∀ p v, w.cell? p = some v → (∀ x, v ≠ .int .u32 x) → w'.cell? p = some v
  words : ∀ p x, w.cell? p = some (.int .u32 x) → ∃ y, w'.cell? p = some (.int .u32 y)
  frozen : ∀ p, w'.frozen? p = w.frozen? p
  ext : ∀ w0, Ext w0 w → w0.heap.size ≤ B → Ext w0 w'
  size : w.heap.size ≤ w'.heap.size
theorem Spoilt.refl (B : Nat) (w : World) : Spoilt B w w := ⟨fun _ _ h _ => h, fun _ x h => ⟨x, h⟩, fun _ => rfl, fun _ h _ => h, Nat.le_refl _⟩
theorem Spoilt.put {B : Nat} {w w' : World} (h : Spoilt B w w') {p : Addr} {x : Int} (hp : w'.cell? p = some (.int .u32 x)) (hB : B ≤ p.block) (y : Int) : Spoilt B w (w'.setCell p (.int .u32 y)) := by
  refine ⟨fun q v hq hv => ?_, fun q z hq => ?_, fun q => by rw [World.frozen?_setCell]; exact h.frozen q, fun w0 h0 hb => Below.setCell (h.ext w0 h0 hb) (Nat.le_trans hb hB) _, by simpa [World.setCell] using h.size⟩
  · by_cases e : p = q
    · subst e
      have h1 := (h.other p v hq hv).symm.trans hp
      injection h1 with h1
      exact absurd h1 (hv x)
    · rw [World.cell?_setCell_other _ _ _ _ e]
      exact h.other q v hq hv
  · by_cases e : p = q
    · subst e
      exact ⟨y, World.cell?_setCell_same' _ _ _ (by rw [hp]; rfl)⟩
    · rw [World.cell?_setCell_other _ _ _ _ e]
      exact h.words q z hq
/-- Words that may be written, in blocks from B on. -/
def U32s (w : World) (B : Nat) (A : Option Addr) (n : Nat) : Prop := 0 < n → ∃ b off, A = some ⟨b, off, none⟩ ∧ B ≤ b ∧ ∀ k, k < n → (∃ x, w.cell? ⟨b, off + k, none⟩ = some (.int .u32 x)) ∧ w.frozen? ⟨b, off + k, none⟩ = false
theorem ZCan.u32s {w : World} {B : Nat} {b : Bool} {A : Option Addr} {n c : Nat} {z : Int} (h : ZCan w B b A n c z) : U32s w B A n := fun hn => by
  obtain ⟨b1, off, e, hl, hc⟩ := h.2.1.2.2 hn
  obtain ⟨b2, off2, e2, hB, h2, hf⟩ := h.2.2.2.2 _ e
  injection e2 with e3 e4
  subst e3 e4
  exact ⟨b1, off, e, hB, fun k hk => ⟨⟨_, hc k hk⟩, hf k⟩⟩
/-- The n rationals of a slice, whose words may be written. -/
def WRow (w : World) (B : Nat) (P : Option Addr) (n : Nat) : Prop := ∀ i, i < n → ∃ (g off : Nat) (s : Bool) (A : Option Addr) (k c : Nat) (t : Bool) (B' : Option Addr) (m d : Nat), P = some ⟨g, off, none⟩ ∧
  w.cell? ⟨g, off + i * 4, none⟩ = some (.bool s) ∧ w.cell? ⟨g, off + i * 4 + 1, none⟩ = some (.slice A k c) ∧ w.cell? ⟨g, off + i * 4 + 2, none⟩ = some (.bool t) ∧ w.cell? ⟨g, off + i * 4 + 3, none⟩ = some (.slice B' m d) ∧ U32s w B A k ∧ U32s w B B' m ∧ k ≤ maxLen ∧ m ≤ maxLen
theorem PartsAt.wrow {w : World} {B0 g n : Nat} {f : Nat → Rat} (h : PartsAt w B0 g n n f) : WRow w B0 (some ⟨g, 0, none⟩) n := fun i hi => by
  obtain ⟨s, A, k, c, t, B, m, d, h0, h1, h2, h3, h4⟩ := h.2 i hi
  exact ⟨g, 0, s, A, k, c, t, B, m, d, rfl, by rw [Nat.zero_add]; exact h0, by rw [Nat.zero_add]; exact h1, by rw [Nat.zero_add]; exact h2, by rw [Nat.zero_add]; exact h3, h4.1.u32s, h4.2.u32s, Nat.le_trans h4.1.2.2.1 h4.1.2.2.2.1, Nat.le_trans h4.2.2.2.1 h4.2.2.2.2.1⟩
theorem WRow.ext {w w' : World} {B : Nat} {P : Option Addr} {n : Nat} (h : WRow w B P n) (hb : Ext w w') : WRow w' B P n := fun i hi => by
  obtain ⟨g, off, s, A, k, c, t, B', m, d, e, h0, h1, h2, h3, h4, h5⟩ := h i hi
  have up : ∀ {A : Option Addr} {n : Nat}, U32s w B A n → U32s w' B A n := fun {A n} hu hn => by
    obtain ⟨b, off, e, hB, hc⟩ := hu hn
    refine ⟨b, off, e, hB, fun k hk => ?_⟩
    obtain ⟨⟨x, hx⟩, hf⟩ := hc k hk
    refine ⟨⟨x, Ext.cellOf hb hx⟩, ?_⟩
    have hlt := World.block_lt_of_cell? _ _ hx
    exact (hb.frozen (p := ⟨b, off + k, none⟩) hlt).trans hf
  exact ⟨g, off, s, A, k, c, t, B', m, d, e, Ext.cellOf hb h0, Ext.cellOf hb h1, Ext.cellOf hb h2, Ext.cellOf hb h3, up h4, up h5.1, h5.2⟩

set_option maxRecDepth 100000 in
set_option maxHeartbeats 8000000 in
theorem spoil_any (P : Option Addr) (n c B : Nat) (w : World) (h : WRow w B P n) (hn : n ≤ maxLen) :
    Calls Tryz.prog 14 #[.slice P n c] w fun e w' => e = .returned (.tuple #[]) ∧ Spoilt B w w' := by
  unfold maxLen at hn
  have H := Lib.hid h
  clear h
  go_enter Tryz.func14, Tryz.ntmps14
  go_wp2_with fail
  go_loopw [2] (fun i wr => ∃ k : Nat, k ≤ n ∧ i = .int .i64 k ∧ Hid (Spoilt B w wr)) (fun i _ => n - (intOf i).toNat)
  case atStart => exact ⟨0, by omega, rfl, Spoilt.refl _ _⟩
  case round =>
    obtain ⟨k, hk, rfl, HI⟩ := hrel
    by_cases hlt : k < n
    · have hbv : decide ((k : Int) < (n : Int)) = true := by simp; omega
      have hbv2 : decide (k < n) = true := by simp; omega
      obtain ⟨g, off, s, A, na, ca, t, B', nb, cb, rfl, h0, h1, h2, h3, h4, h5, hla, hlb⟩ := H.out k hlt
      unfold maxLen at hla hlb
      have H1 := Lib.hid h1
      have H3 := Lib.hid h3
      have HA := Lib.hid h4
      have HB := Lib.hid h5
      clear h0 h1 h2 h3 h4 h5
      have hz0 : (0 : Int) ≤ (k : Int) := by omega
      have hzn : (k : Int) < (n : Int) := by omega
      go_wp2_with fail
      obtain ⟨wo, rfl⟩ : ∃ wo : World, wo = wr := ⟨_, rfl⟩

      go_loopw [3] (fun j wr => ∃ l : Nat, l ≤ na ∧ j = .int .i64 l ∧ Hid (Spoilt B w wr)) (fun j _ => na - (intOf j).toNat)
      case atStart => exact ⟨0, by omega, rfl, HI.out⟩
      case round =>
        obtain ⟨l, hl, rfl, S1⟩ := hrel
        have xc := S1.out.other _ _ H1.out (fun x => by simp)
        by_cases hll : l < na
        · have hbw : decide ((l : Int) < (na : Int)) = true := by simp; omega
          have hbw2 : decide (l < na) = true := by simp; omega
          obtain ⟨b, o2, rfl, hbB, hcell⟩ := HA.out (by omega)
          obtain ⟨⟨x, hx⟩, hf⟩ := hcell l hll
          obtain ⟨y, xy⟩ := S1.out.words _ _ hx
          have xf := (S1.out.frozen _).trans hf
          have HP : Hid (Spoilt B w (wr.setCell ⟨b, o2 + l, none⟩ (.int .u32 7))) := S1.out.put xy hbB 7
          have hy0 : (0 : Int) ≤ (l : Int) := by omega
          have hyn : (l : Int) < (na : Int) := by omega
          clear hcell hx hf
          go_wp2_with fail
          go_roundw
          case rel => exact ⟨l + 1, by omega, by go_num, HP.out⟩
          case measure => simp [intOf]; omega
        · have hbw : decide ((l : Int) < (na : Int)) = false := by simp; omega
          have hbw2 : decide (l < na) = false := by simp; omega
          go_wp2_with fail
          clear xc
          obtain ⟨wo2, rfl⟩ : ∃ wo : World, wo = wr := ⟨_, rfl⟩
          have HJ := S1
          go_loopw [4] (fun j wr => ∃ l : Nat, l ≤ nb ∧ j = .int .i64 l ∧ Hid (Spoilt B w wr)) (fun j _ => nb - (intOf j).toNat)
          case atStart => exact ⟨0, by omega, rfl, HJ.out⟩
          case round =>
            obtain ⟨l, hl, rfl, S2⟩ := hrel
            have xc := S2.out.other _ _ H3.out (fun x => by simp)
            by_cases hll : l < nb
            · have hbw : decide ((l : Int) < (nb : Int)) = true := by simp; omega
              have hbw2 : decide (l < nb) = true := by simp; omega
              obtain ⟨b, o2, rfl, hbB, hcell⟩ := HB.out (by omega)
              obtain ⟨⟨x, hx⟩, hf⟩ := hcell l hll
              obtain ⟨y, xy⟩ := S2.out.words _ _ hx
              have xf := (S2.out.frozen _).trans hf
              have HP : Hid (Spoilt B w (wr.setCell ⟨b, o2 + l, none⟩ (.int .u32 7))) := S2.out.put xy hbB 7
              have hy0 : (0 : Int) ≤ (l : Int) := by omega
              have hyn : (l : Int) < (nb : Int) := by omega
              clear hcell hx hf
              go_wp2_with fail
              go_roundw
              case rel => exact ⟨l + 1, by omega, by go_num, HP.out⟩
              case measure => simp [intOf]; omega
            · have hbw : decide ((l : Int) < (nb : Int)) = false := by simp; omega
              have hbw2 : decide (l < nb) = false := by simp; omega
              go_wp2_with fail
              go_roundw
              case rel => exact ⟨k + 1, by omega, by go_num, S2.out⟩
              case measure => simp [intOf]; omega
    · have hbv : decide ((k : Int) < (n : Int)) = false := by simp; omega
      have hbv2 : decide (k < n) = false := by simp; omega
      go_wp2_with fail
      go_end0
      exact ⟨rfl, HI.out⟩

set_option maxRecDepth 100000 in
set_option maxHeartbeats 4000000 in
theorem rsteps_same (A : Option Addr) (n c : Nat) (xs : List (Int × Int)) (B : Option Addr) (m d : Nat) (ys : List (Int × Int)) (w : World) (hx : StepsAt w A n xs) (hy : StepsAt w B m ys) (hn : n ≤ maxLen) (hm : m ≤ maxLen) :
    Calls Tryz.prog 13 #[.slice A n c, .slice B m d] w fun e w' => e = .returned (.bool (decide (xs = ys))) ∧ Ext w w' := by
  unfold maxLen at hn hm
  have HX := Lib.hid hx
  have HY := Lib.hid hy
  clear hx hy
  by_cases hnm : n = m
  · subst hnm
    have hb : ((n : Int) != (n : Int)) = false := by simp
    go_enter Tryz.func13, Tryz.ntmps13
    go_wp2_with fail
    go_loopw [5] (fun i wr => ∃ k : Nat, k ≤ n ∧ i = .int .i64 k ∧ Hid ((∀ j, j < k → xs.getD j (0, 0) = ys.getD j (0, 0)) ∧ Ext w wr)) (fun i _ => n - (intOf i).toNat)
    case atStart => exact ⟨0, by omega, rfl, fun j hj => by omega, Ext.rfl'⟩
    case round =>
      obtain ⟨k, hk, rfl, HI⟩ := hrel
      by_cases hlt : k < n
      · have hbv : decide ((k : Int) < (n : Int)) = true := by simp; omega
        have hbv2 : decide (k < n) = true := by simp; omega
        obtain ⟨b1, o1, rfl, hl1, hc1⟩ := (HX.out.below HI.out.2).2 (by omega)
        obtain ⟨b2, o2, rfl, hl2, hc2⟩ := (HY.out.below HI.out.2).2 (by omega)
        obtain ⟨p0, p1⟩ := hc1 k hlt
        obtain ⟨q0, q1⟩ := hc2 k hlt
        have hz0 : (0 : Int) ≤ (k : Int) := by omega
        have hzn : (k : Int) < (n : Int) := by omega
        have HEQ : Hid (xs.getD k (0, 0) = ys.getD k (0, 0) ↔ (xs.getD k (0, 0)).1 = (ys.getD k (0, 0)).1 ∧ (xs.getD k (0, 0)).2 = (ys.getD k (0, 0)).2) := Prod.ext_iff
        generalize (xs.getD k (0, 0)).1 = a0 at *
        generalize (xs.getD k (0, 0)).2 = a1 at *
        generalize (ys.getD k (0, 0)).1 = c0 at *
        generalize (ys.getD k (0, 0)).2 = c1 at *
        have HE := Lib.hid HI.out.2
        have HJ := Lib.hid HI.out.1
        clear hc1 hc2 HI
        by_cases he : a0 = c0 ∧ a1 = c1
        · obtain ⟨rfl, rfl⟩ := he
          have HJ2 : Hid (∀ j, j < k + 1 → xs.getD j (0, 0) = ys.getD j (0, 0)) := fun j hj => by
            by_cases e : j = k
            · subst e; exact HEQ.out.2 ⟨rfl, rfl⟩
            · exact HJ.out j (by omega)
          clear HJ HEQ
          go_wp2_with fail
          go_quiet (fail)
          go_wp2_with fail
          go_roundw
          case rel => exact ⟨k + 1, by omega, by go_num, HJ2.out, below_drewN HE.out _⟩
          case measure => simp [intOf]; omega
        · have HN : Hid (¬ xs = ys) := fun e => he (HEQ.out.1 (by rw [e]))
          have hne : a0 ≠ c0 ∨ a1 ≠ c1 := by omega
          clear he HEQ HJ
          rcases hne with hne | hne
          · have hq : (a0 == c0) = false := by simp [hne]
            go_wp2_with fail
            go_quiet (fail)
            go_wp2_with fail
            go_ret
            exact ⟨ret_bool (decide_eq_false HN.out).symm, below_drewN HE.out _⟩
          · have hq : (a1 == c1) = false := by simp [hne]
            go_wp2_with fail
            go_quiet (fail)
            go_wp2_with fail
            go_ret
            exact ⟨ret_bool (decide_eq_false HN.out).symm, below_drewN HE.out _⟩
      · have hbv : decide ((k : Int) < (n : Int)) = false := by simp; omega
        have hbv2 : decide (k < n) = false := by simp; omega
        have HT : Hid (xs = ys) := by
          refine List.ext_getElem (by rw [HX.out.1, HY.out.1]) fun j h1 h2 => ?_
          have := HI.out.1 j (by rw [HX.out.1] at h1; omega)
          simpa [List.getD, h1, h2] using this
        have HE := Lib.hid HI.out.2
        clear HI
        go_wp2_with fail
        go_ret
        exact ⟨ret_bool (decide_eq_true HT.out).symm, HE.out⟩
  · have hb : ((n : Int) != (m : Int)) = true := by simp; omega
    have hb2 : (n != m) = true := by simp; omega
    have HN : Hid (¬ xs = ys) := fun e => hnm (by rw [← HX.out.1, ← HY.out.1, e])
    clear hnm
    go_enter Tryz.func13, Tryz.ntmps13
    go_wp2_with fail
    go_ret
    exact ⟨ret_bool (decide_eq_false HN.out).symm, Ext.rfl'⟩
set_option maxRecDepth 100000 in
set_option maxHeartbeats 4000000 in
theorem ris_new (s1 : Bool) (A1 : Option Addr) (n1 c1 : Nat) (t1 : Bool) (B1 : Option Addr) (m1 d1 : Nat) (p : Rat) (s2 : Bool) (A2 : Option Addr) (n2 c2 : Nat) (t2 : Bool) (B2 : Option Addr) (m2 d2 : Nat) (q : Rat) (b1 b2 : Nat) (w : World) (h1 : QNew w b1 s1 A1 n1 c1 t1 B1 m1 d1 p) (h2 : QNew w b2 s2 A2 n2 c2 t2 B2 m2 d2 q) (l1 : n1 ≤ 1073741824) (l2 : m1 ≤ 1073741824) :
    Calls Tryz.prog 12 #[.agg #[.bool s1, .slice A1 n1 c1, .bool t1, .slice B1 m1 d1], .agg #[.bool s2, .slice A2 n2 c2, .bool t2, .slice B2 m2 d2]] w fun e w' => e = .returned (.bool (decide (p = q))) ∧ Ext w w' := by
  have HN : Hid ((s1 = s2 ∧ wordsOf p.num.natAbs = wordsOf q.num.natAbs) ↔ p.num = q.num) := by unfold Hid; rw [h1.1.1, h2.1.1]; exact can_same _ _
  have HD : Hid ((t1 = t2 ∧ wordsOf (denOf p).natAbs = wordsOf (denOf q).natAbs) ↔ denOf p = denOf q) := by unfold Hid; rw [h1.2.1.1, h2.2.1.1]; exact can_same _ _
  have HPQ := Lib.hid (q_parts p q)
  have H1 := Lib.hid h1
  have H2 := Lib.hid h2
  clear h1 h2
  go_enter Tryz.func12, Tryz.ntmps12
  go_wp2_with fail
  obtain ⟨k1, k2, hE⟩ := boxQ2 w (.bool s1) (.slice A1 n1 c1) (.bool t1) (.slice B1 m1 d1) (.bool s2) (.slice A2 n2 c2) (.bool t2) (.slice B2 m2 d2) 27
  generalize (w.alloc (.cells #[.bool s1, .slice A1 n1 c1, .bool t1, .slice B1 m1 d1] 27)).alloc (.cells #[.bool s2, .slice A2 n2 c2, .bool t2, .slice B2 m2 d2] 27) = w1 at *
  refine (rsame_any s1 A1 n1 c1 _ s2 A2 n2 c2 _ w1 (H1.out.ext hE).1.2.1 (H2.out.ext hE).1.2.1 l1).mono ?_
  rintro e w2 ⟨rfl, hE2⟩
  obtain ⟨⟨g0, g1, g2, g3⟩, _, _⟩ := k1.ext hE2
  obtain ⟨⟨i0, i1, i2, i3⟩, _, _⟩ := k2.ext hE2
  have hE12 := Ext.trans hE hE2
  by_cases e1 : p.num = q.num
  · rw [decide_eq_true (HN.out.2 e1)]
    have HE1 := Lib.hid e1
    clear e1
    go_wp2_with fail
    refine (rsame_any t1 B1 m1 d1 _ t2 B2 m2 d2 _ w2 (H1.out.ext hE12).2.1.2.1 (H2.out.ext hE12).2.1.2.1 l2).mono ?_
    rintro e w3 ⟨rfl, hE3⟩
    have HB : Hid (decide (t1 = t2 ∧ wordsOf (denOf p).natAbs = wordsOf (denOf q).natAbs) = decide (p = q)) := by
      refine decide_eq_decide.2 (HD.out.trans ?_)
      rw [HPQ.out]
      exact ⟨fun h => ⟨HE1.out, h⟩, fun h => h.2⟩
    rw [HB.out]
    obtain ⟨bb, hbb⟩ : ∃ v, decide (p = q) = v := ⟨_, rfl⟩
    rw [hbb]
    have HBB := Lib.hid hbb
    clear hbb
    go_wp2_with fail
    go_ret
    exact ⟨ret_bool' HBB.out.symm, Ext.trans hE12 hE3⟩
  · rw [decide_eq_false (fun e => e1 (HN.out.1 e))]
    have HB : Hid (decide (p = q) = false) := decide_eq_false (fun e => e1 (HPQ.out.1 e).1)
    clear e1
    go_wp2_with fail
    go_ret
    exact ⟨ret_bool' HB.out.symm, hE12⟩

set_option maxRecDepth 100000 in
set_option maxHeartbeats 4000000 in
theorem rrows_new (P : Option Addr) (n c : Nat) (f : Nat → Rat) (P' : Option Addr) (m c' : Nat) (f' : Nat → Rat) (w : World) (h1 : LRow w P n f) (h2 : LRow w P' m f') (hz : ∀ i, i < n → Sz 33554432 (f i)) (hn : n ≤ 1000) (hm : m ≤ 1000) :
    Calls Tryz.prog 11 #[.slice P n c, .slice P' m c'] w fun e w' => (∃ b, e = .returned (.bool b) ∧ (b = true ↔ n = m ∧ ∀ i, i < n → f i = f' i)) ∧ Ext w w' := by
  have H1 := Lib.hid h1
  have H2 := Lib.hid h2
  clear h1 h2
  by_cases hnm : n = m
  · subst hnm
    go_enter Tryz.func11, Tryz.ntmps11
    go_wp2_with fail
    go_loopw [5] (fun i wr => ∃ k : Nat, k ≤ n ∧ i = .int .i64 k ∧ Hid ((∀ j, j < k → f j = f' j) ∧ Ext w wr)) (fun i _ => n - (intOf i).toNat)
    case atStart => exact ⟨0, by omega, rfl, fun j hj => by omega, Ext.rfl'⟩
    case round =>
      obtain ⟨k, hk, rfl, HI⟩ := hrel
      by_cases hlt : k < n
      · have hbv : decide ((k : Int) < (n : Int)) = true := by simp; omega
        obtain ⟨g, off, s1, A1, n1, c1, t1, B1, m1, d1, rfl, -, p0, p1, p2, p3, hp⟩ := (H1.out.ext HI.out.2) k hlt
        obtain ⟨g', off', s2, A2, n2, c2, t2, B2, m2, d2, rfl, -, q0, q1, q2, q3, hq⟩ := (H2.out.ext HI.out.2) k hlt
        have hd : Ext wr wr.drew := Ext.rfl'.drew
        have hlen := hp.len (hz k hlt)
        have HEr := Lib.hid (Ext.trans HI.out.2 hd)
        have HJ := Lib.hid HI.out.1
        have HP := Lib.hid (hp.ext hd)
        have HQ := Lib.hid (hq.ext hd)
        obtain ⟨hl1, hl2⟩ := hlen
        clear HI hp hq
        go_wp2_with fail
        refine wp_region_lex (C := InX wr.drew []) (by kernel_rfl) (by kernel_rfl) (inX_self _ _) ?_
        have x0 := fun y : ExtX wr.drew [] => y.cell (p := ⟨g, off + k * 4, none⟩) (Ext.cellOf hd p0) (by simp)
        have x1 := fun y : ExtX wr.drew [] => y.cell (p := ⟨g, off + k * 4 + 1, none⟩) (Ext.cellOf hd p1) (by simp)
        have x2 := fun y : ExtX wr.drew [] => y.cell (p := ⟨g, off + k * 4 + 2, none⟩) (Ext.cellOf hd p2) (by simp)
        have x3 := fun y : ExtX wr.drew [] => y.cell (p := ⟨g, off + k * 4 + 3, none⟩) (Ext.cellOf hd p3) (by simp)
        have x4 := fun y : ExtX wr.drew [] => y.cell (p := ⟨g', off' + k * 4, none⟩) (Ext.cellOf hd q0) (by simp)
        have x5 := fun y : ExtX wr.drew [] => y.cell (p := ⟨g', off' + k * 4 + 1, none⟩) (Ext.cellOf hd q1) (by simp)
        have x6 := fun y : ExtX wr.drew [] => y.cell (p := ⟨g', off' + k * 4 + 2, none⟩) (Ext.cellOf hd q2) (by simp)
        have x7 := fun y : ExtX wr.drew [] => y.cell (p := ⟨g', off' + k * 4 + 3, none⟩) (Ext.cellOf hd q3) (by simp)
        clear p0 p1 p2 p3 q0 q1 q2 q3 hd
        generalize wr.drew = wd at *
        have hz0 : (0 : Int) ≤ (k : Int) := by omega
        have hzn : (k : Int) < (n : Int) := by omega
        repeat (refine wpLex_still (by rfl) ?_; go_big_quiet_step (fail); refine wpQuiet_nil ?_)
        refine wpLex_move (by rfl) (by rfl) ?_
        go_wp2_with fail
        refine (ris_new s1 A1 n1 c1 t1 B1 m1 d1 (f k) s2 A2 n2 c2 t2 B2 m2 d2 (f' k) 0 0 wd HP.out HQ.out (by omega) (by omega)).mono ?_
        rintro e w3 ⟨rfl, hE3⟩
        by_cases he : f k = f' k
        · rw [decide_eq_true he]
          have HJ2 : Hid (∀ j, j < k + 1 → f j = f' j) := fun j hj => by
            by_cases hj2 : j = k
            · rw [hj2]; exact he
            · exact HJ.out j (by omega)
          clear he HJ
          go_wp2_with fail
          refine And.intro (inX_of_ext _ hE3) ?_
          repeat (refine wpLex_still (by rfl) ?_; go_big_quiet_step (fail); refine wpQuiet_nil ?_)
          refine wpLex_nil ?_
          go_wp2_with fail
          go_roundw
          case rel => exact ⟨k + 1, by omega, by go_num, HJ2.out, Ext.trans HEr.out hE3⟩
          case measure => simp [intOf]; omega
        · rw [decide_eq_false he]
          have HN : Hid (¬ ∀ i, i < n → f i = f' i) := fun h => he (h k hlt)
          clear he
          go_wp2_with fail
          refine And.intro (inX_of_ext _ hE3) ?_
          repeat (refine wpLex_still (by rfl) ?_; go_big_quiet_step (fail); refine wpQuiet_nil ?_)
          refine wpLex_nil ?_
          go_wp2_with fail
          go_ret
          exact ⟨⟨false, rfl, by simpa using HN.out⟩, Ext.trans HEr.out hE3⟩
      · have hbv : decide ((k : Int) < (n : Int)) = false := by simp; omega
        have HJ := Lib.hid HI.out
        clear HI
        go_wp2_with fail
        go_ret
        exact ⟨⟨true, rfl, by simp; exact fun i hi => HJ.out.1 i (by omega)⟩, HJ.out.2⟩
  · have hb : ((n : Int) != (m : Int)) = true := by simp; omega
    have hb2 : (n != m) = true := by simp; omega
    have HN := Lib.hid hnm
    clear hnm
    go_enter Tryz.func11, Tryz.ntmps11
    go_wp2_with fail
    go_ret
    exact ⟨⟨false, rfl, by simp; exact fun h => absurd h HN.out⟩, Ext.rfl'⟩
end Go.Proofs.YtppcpklnnbgcjaaGreat
