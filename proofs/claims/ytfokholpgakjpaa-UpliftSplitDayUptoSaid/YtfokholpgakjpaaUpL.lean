/- Contract of pylonlaw33.Long. Printed by gen_upl.py. -/
import Derived.Test.YtfokholpgakjpaaUpB
namespace Go.Proofs.Ytfokholpgakjpaa
open Go.RowKit

/-- The slice with address P and length k holds rationals: where the lengths of their words lie. -/
def LenRow (w : World) (P : Option Addr) (k : Nat) : Prop := 0 < k → ∃ b off, P = some ⟨b, off, none⟩ ∧ b < w.heap.size ∧ ∀ j, j < k → ∃ (A : Option Addr) (n c : Nat) (B : Option Addr) (m d : Nat), w.cell? ⟨b, off + j * 4 + 1, none⟩ = some (.slice A n c) ∧ w.cell? ⟨b, off + j * 4 + 3, none⟩ = some (.slice B m d) ∧ n ≤ maxLen ∧ m ≤ maxLen
theorem LenRow.ext {w w' : World} {P : Option Addr} {k : Nat} (h : LenRow w P k) (hb : Ext w w') : LenRow w' P k := fun hk => by
  obtain ⟨b, off, e, hl, hc⟩ := h hk
  refine ⟨b, off, e, Nat.lt_of_lt_of_le hl hb.size, fun j hj => ?_⟩
  obtain ⟨A, n, c, B, m, d, h1, h2, h3⟩ := hc j hj
  exact ⟨A, n, c, B, m, d, Ext.cellOf hb h1, Ext.cellOf hb h2, h3⟩
theorem QsK.lenRow {K : Nat} {w : World} {P : Option Addr} {n : Nat} {ps : List Rat} (h : QsK K w P n ps) (hK : K ≤ 1048576) : LenRow w P n := fun hn => by
  obtain ⟨b, off, ha, hlt, hc⟩ := h.2 hn
  refine ⟨b, off, ha, hlt, fun i hi => ?_⟩
  obtain ⟨s, A, m, c, t, B, k, d, h0, h1, h2, h3, h4, h5, h6⟩ := hc i hi
  exact ⟨A, m, c, B, k, d, h1, h3, by unfold maxLen; omega, by unfold maxLen; omega⟩
/-- Block g holds m slices of rationals. -/
def LRows (w : World) (g m : Nat) (Ps : Nat → Option Addr) (ks cs : Nat → Nat) : Prop := ∀ i, i < m → w.cell? ⟨g, i, none⟩ = some (.slice (Ps i) (ks i) (cs i)) ∧ LenRow w (Ps i) (ks i) ∧ ks i ≤ maxLen
theorem LRows.ext {w w' : World} {g m : Nat} {Ps : Nat → Option Addr} {ks cs : Nat → Nat} (h : LRows w g m Ps ks cs) (hb : Ext w w') : LRows w' g m Ps ks cs := fun i hi => ⟨Ext.cellOf hb (h i hi).1, (h i hi).2.1.ext hb, (h i hi).2.2⟩
def RetL33 (w : World) (m : Nat) (ks : Nat → Nat) (e : Ending) (w' : World) : Prop := (∃ b, e = .returned (.bool b) ∧ (b = false → ∀ i, i < m → ks i ≤ 40)) ∧ Ext w w'
set_option maxRecDepth 100000 in
set_option maxHeartbeats 16000000 in
theorem long33_any (g m c : Nat) (Ps : Nat → Option Addr) (ks cs : Nat → Nat) (w : World) (h : LRows w g m Ps ks cs) (hm : m ≤ 10) :
    Calls Try.prog 6 #[.slice (some ⟨g, 0, none⟩) m c] w (RetL33 w m ks) := by
  have H := Lib.hid h
  clear h
  go_enter Try.func6, Try.ntmps6
  go_wp2_with fail
  go_loopw [3, 4] (fun v i wr => ∃ a q : Nat, q ≤ m ∧ a ≤ 400 ∧ v = .int .i64 (a : Int) ∧ i = .int .i64 (q : Int) ∧ Hid (Ext w wr) ∧ Hid (∀ x, x < q → ks x ≤ 40)) (fun _ i _ => m - (intOf i).toNat)
  case atStart => exact ⟨0, 0, by omega, by omega, rfl, rfl, Ext.rfl', fun x hx => by omega⟩
  case round =>
    obtain ⟨a, q, hq, ha, rfl, rfl, HER, HK⟩ := hrel
    by_cases hlt : q < m
    rotate_left
    · have hbv : decide ((q : Int) < (m : Int)) = false := by simp; omega
      have hbv2 : decide (q < m) = false := by simp; omega
      go_wp2_with fail
      go_ret
      exact ⟨⟨false, rfl, fun _ i hi => HK.out i (by omega)⟩, HER.out⟩
    have hbv : decide ((q : Int) < (m : Int)) = true := by simp; omega
    have hbv2 : decide (q < m) = true := by simp; omega
    have hz0 : (0 : Int) ≤ (q : Int) := by omega
    have hzn : (q : Int) < (m : Int) := by omega
    obtain ⟨y0, hLR, hkm⟩ := (H.out.ext HER.out) q hlt
    have HLR := Lib.hid hLR
    have HKQ : Hid (∀ x, x < q + 1 → ks x ≤ 40 ∨ x = q) := fun x hx => by
      by_cases e : x = q
      · exact .inr e
      · exact .inl (HK.out x (by omega))
    have HY := Lib.hid y0
    have HKK : Hid (ks q = ks q) := rfl
    obtain ⟨kq, hkq⟩ : ∃ v, ks q = v := ⟨_, rfl⟩
    obtain ⟨Pq, hPq⟩ : ∃ v, Ps q = v := ⟨_, rfl⟩
    obtain ⟨cq, hcq⟩ : ∃ v, cs q = v := ⟨_, rfl⟩
    rw [hkq, hPq, hcq] at y0 HY
    rw [hkq] at hkm
    rw [hkq, hPq] at HLR
    have HKE := Lib.hid hkq
    have zy := World.block_lt_of_cell? _ _ y0
    clear hLR hkq hPq hcq HKK HK
    unfold maxLen at hkm
    by_cases h40 : 40 < kq
    · have hx1 : decide ((40 : Int) < (kq : Int)) = true := by simp; omega
      have hx2 : decide (40 < kq) = true := by simp; omega
      go_wp2_with fail
      go_ret
      exact ⟨⟨true, rfl, fun e => by cases e⟩, HER.out⟩
    have hx1 : decide ((40 : Int) < (kq : Int)) = false := by simp; omega
    have hx2 : decide (40 < kq) = false := by simp; omega
    go_wp2_with fail
    clear hx1 hx2 y0 zy hbv hbv2
    obtain ⟨wo, hwo⟩ : ∃ v, v = wr := ⟨_, rfl⟩
    rw [← hwo] at HER HLR HY ⊢
    clear hwo
    go_loopw [3, 5] (fun v j wr => ∃ b p : Nat, p ≤ kq ∧ b ≤ 400 + 201 * p ∧ v = .int .i64 (b : Int) ∧ j = .int .i64 (p : Int) ∧ Hid (Ext wo wr)) (fun _ j _ => kq - (intOf j).toNat)
    case atStart => exact ⟨a, 0, by omega, by omega, rfl, rfl, Ext.rfl'⟩
    case round =>
      obtain ⟨b, p, hp, hb, rfl, rfl, HES⟩ := hrel
      have y0 := Ext.cellOf HES.out HY.out
      have zy := World.block_lt_of_cell? _ _ y0
      by_cases hlp : p < kq
      rotate_left
      · have hbv : decide ((p : Int) < (kq : Int)) = false := by simp; omega
        have hbv2 : decide (p < kq) = false := by simp; omega
        by_cases h400 : 400 < b
        · have hx1 : decide ((400 : Int) < (b : Int)) = true := by simp; omega
          have hx2 : decide (400 < b) = true := by simp; omega
          go_wp2_with fail
          go_ret
          exact ⟨⟨true, rfl, fun e => by cases e⟩, Ext.trans HER.out HES.out⟩
        have hx1 : decide ((400 : Int) < (b : Int)) = false := by simp; omega
        have hx2 : decide (400 < b) = false := by simp; omega
        go_wp2_with fail
        go_roundw
        case rel => exact ⟨b, q + 1, by omega, by omega, rfl, by go_num, Ext.trans HER.out HES.out, fun x hx => by
          rcases HKQ.out x hx with e | e
          · exact e
          · rw [e, HKE.out]; omega⟩
        case measure => simp [intOf]; omega
      have hbv : decide ((p : Int) < (kq : Int)) = true := by simp; omega
      have hbv2 : decide (p < kq) = true := by simp; omega
      have hp0 : (0 : Int) ≤ (p : Int) := by omega
      have hpn : (p : Int) < (kq : Int) := by omega
      obtain ⟨bP, oP, hP, hbP, hcP⟩ := HLR.out (by omega)
      subst hP
      obtain ⟨A1, n1, c1, B1, m1, d1', hc1, hc2, hn1, hm1⟩ := hcP p hlp
      have HC := Lib.hid (And.intro (Ext.cellOf HES.out hc1) (Ext.cellOf HES.out hc2))
      clear hc1 hc2 hcP
      unfold maxLen at hn1 hm1
      go_wp2_with fail
      clear y0 zy
      have hED : Ext wr wr.drew := Ext.rfl'.drew
      refine wp_region_lexS (C := InX wr.drew []) (by kernel_rfl) (by kernel_rfl) (inX_self _ _) ?_
      generalize wr.drew = wd at *
      have f0 := fun z : ExtX wd [] => z.cell (p := ⟨g, q, none⟩) (Ext.cellOf hED (Ext.cellOf HES.out HY.out)) (by simp)
      have f1 := fun z : ExtX wd [] => z.cell (p := ⟨bP, oP + p * 4 + 1, none⟩) (Ext.cellOf hED HC.out.1) (by simp)
      have f2 := fun z : ExtX wd [] => z.cell (p := ⟨bP, oP + p * 4 + 3, none⟩) (Ext.cellOf hED HC.out.2) (by simp)
      repeat (refine lexAt_still (by rfl) ?_; go_big_quiet_step (fail); refine wpQuiet_nil ?_)
    
      refine lexAt_nil ?_
      clear f0 f1 f2
      go_wp2_with fail
      go_roundw
      case rel =>
        have key : ∀ n : Nat, ∃ x : Nat, x ≤ 100 ∧ (if (n : Int) < 100 then (n : Int) else 100) = (x : Int) := fun n => by
          by_cases h : (n : Int) < 100
          · exact ⟨n, by omega, by rw [if_pos h]⟩
          · exact ⟨100, by omega, by rw [if_neg h]; rfl⟩
        obtain ⟨x, hx1, hx2⟩ := key n1
        obtain ⟨y, hy1, hy2⟩ := key m1
        rw [hx2, hy2]
        exact ⟨b + 1 + x + y, p + 1, by omega, by omega, by go_num, by go_num, Ext.trans HES.out hED⟩
      case measure => simp [intOf]; omega
end Go.Proofs.Ytfokholpgakjpaa
