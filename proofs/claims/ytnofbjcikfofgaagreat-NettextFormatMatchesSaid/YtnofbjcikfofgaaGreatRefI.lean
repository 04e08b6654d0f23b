/- Contracts of pylonref01.Sign, Neg, Abs, Add, Mul, Div where the divisor divides, Gcd, Cmp, pylonref02.one. Printed by gen_refz.py. -/
import Derived.Test.YtnofbjcikfofgaaGreatRefDH
import Derived.Test.YtnofbjcikfofgaaGreatHalve
namespace Go.Proofs.YtnofbjcikfofgaaGreat
open Go.RowKit

/-- The digits of an integer in memory. -/
theorem ZIs.parts {w : World} {b : Bool} {A : Option Addr} {n c : Nat} {z : Int} (h : ZIs w b A n c z) (hn : n ≤ 536870912) : ∃ m : Nat, z = sgn b m ∧ (halfOf m).length ≤ 2 * n ∧ (∀ w', Ext w w' → Calls Tryz.prog 61 #[.slice A n c] w' (RetH w' m)) := by
  obtain ⟨xs, h1, h2, h3, rfl⟩ := h
  refine ⟨natOf xs, rfl, ?_, fun w' hE => ?_⟩
  · have := half_len_le h1.2.1
    rw [h1.1] at this
    exact this
  · exact halves_any A n c xs w' (h1.below hE) (by omega)
theorem sgn_sign (b : Bool) {m : Nat} (h : m ≠ 0) : (sgn b m).sign = if b then -1 else 1 := by
  unfold sgn
  cases b
  · simp; omega
  · simp; omega
theorem sgn_not (b : Bool) (m : Nat) : sgn (!b) m = -sgn b m := by unfold sgn; cases b <;> simp
theorem sgn_false (m : Nat) : sgn false m = (m : Int) := rfl
theorem cmp_geP {a b : Nat} (h : b ≤ a) : decide (0 ≤ cmpN a b) = true := by
  unfold cmpN
  rw [if_neg (by omega)]
  split <;> rfl
theorem cmp_ltP {a b : Nat} (h : a < b) : decide (0 ≤ cmpN a b) = false := by
  unfold cmpN
  rw [if_pos h]
  rfl
theorem half_inj {w : World} {A : Option Addr} {n X Y : Nat} (hx : HalfAt w A n (halfOf X)) (hy : HalfAt w A n (halfOf Y)) : X = Y := by
  have e : halfOf X = halfOf Y := by
    refine List.ext_getElem (by rw [hx.1, hy.1]) fun i h1 h2 => ?_
    have hn : 0 < n := by rw [hx.1] at h1; omega
    obtain ⟨b, off, hA, hl, hc⟩ := hx.2.2 hn
    obtain ⟨b', off', hA', hl', hc'⟩ := hy.2.2 hn
    rw [hA] at hA'
    injection hA' with hA'
    injection hA' with e1 e2
    subst e1 e2
    have := (hc i (by rw [hx.1] at h1; exact h1)).symm.trans (hc' i (by rw [hx.1] at h1; exact h1))
    injection this with this
    injection this with _ this
    simp only [List.getD, List.getElem?_eq_getElem h1, List.getElem?_eq_getElem h2, Option.getD_some] at this
    omega
  rw [← hOf_halfOf X, e, hOf_halfOf]
open Classical in
/-- The number that a slice of digits in least form is. -/
noncomputable def hvalOf (w : World) (v : Value) : Nat := if h : ∃ (Y : Nat) (A : Option Addr) (n c : Nat), v = .slice A n c ∧ HalfAt w A n (halfOf Y) then h.choose else 0
theorem hvalOf_eq {w : World} {A : Option Addr} {n Y : Nat} (h : HalfAt w A n (halfOf Y)) (c : Nat) : hvalOf w (.slice A n c) = Y := by
  have he : ∃ (Y : Nat) (A' : Option Addr) (n' c' : Nat), Value.slice A n c = .slice A' n' c' ∧ HalfAt w A' n' (halfOf Y) := ⟨Y, A, n, c, rfl, h⟩
  unfold hvalOf
  rw [dif_pos he]
  obtain ⟨A', n', c', e, h'⟩ := he.choose_spec
  injection e with e1 e2 e3
  subst e1 e2
  exact half_inj h' h
/-- Quotient, remainder and no error. -/
def RetDX (w : World) (z : Int) (e : Ending) (w' : World) : Prop := ∃ b A n c b2 A2 n2 c2, e = .returned (.tuple #[.agg #[.bool b, .slice A n c], .agg #[.bool b2, .slice A2 n2 c2], .int .i64 0]) ∧ ZCan w' w.heap.size b A n c z ∧ Ext w w'

set_option maxRecDepth 100000 in
set_option maxHeartbeats 4000000 in
theorem rsign_any (sa : Bool) (Aa : Option Addr) (na ca : Nat) (z : Int) (w : World) (h : ZIs w sa Aa na ca z) (hna : na ≤ 536870912) :
    Calls Tryz.prog 64 #[.agg #[.bool sa, .slice Aa na ca]] w fun e w' => e = .returned (.int .i64 z.sign) ∧ Ext w w' := by
  obtain ⟨m, rfl, hlm, CHm⟩ := h.parts (by omega)
  have HCm := Lib.hid CHm
  clear CHm h
  go_enter Tryz.func64, Tryz.ntmps64
  go_wp2_with fail
  have k0 := Cell2.new (w) (w.heap.size) rfl (.bool sa) (.slice Aa na ca) 49
  have hE : Ext w ((w).alloc (.cells #[.bool sa, .slice Aa na ca] 49)) := (Ext.al Ext.rfl' _)
  generalize (w).alloc (.cells #[.bool sa, .slice Aa na ca] 49) = w1 at *
  have Ew1 := Lib.hid hE
  clear hE
  have Ka := Lib.hid k0
  clear k0
  refine (HCm.out w1 Ew1.out).mono ?_
  rintro e w2 ⟨Ah, ch, rfl, h1, h2, h3, hE⟩
  have Ew2 := Lib.hid hE
  clear hE
  have Hh := Lib.hid h1
  have Lh := Lib.hid (And.intro h2 h3)
  clear h1 h2 h3
  by_cases hm0 : m = 0
  · subst hm0
    rw [halfOf_zero, List.length_nil]
    go_wp2_with fail
    go_ret
    exact ⟨ret_i (by rw [sgn_zero]; rfl), (Ext.trans Ew1.out Ew2.out)⟩
  · have HS := Lib.hid (fun b => sgn_sign b hm0)
    have hN1 := halfOf_length_pos hm0
    clear hm0
    obtain ⟨N, hN⟩ : ∃ N, (halfOf m).length = N := ⟨_, rfl⟩
    rw [hN] at Hh hN1 ⊢
    clear hN
    have hb1 : ((N : Int) == 0) = false := by simp; omega
    have hb2 : (N == 0) = false := by simp; omega
    obtain ⟨xa0, xa1, -, -, za⟩ := (Ka.out.ext Ew2.out)
    cases sa
    · go_wp2_with fail
      go_ret
      exact ⟨ret_i (by rw [HS.out]; rfl), (Ext.trans Ew1.out Ew2.out)⟩
    · go_wp2_with fail
      go_ret
      exact ⟨ret_i (by rw [HS.out]; rfl), (Ext.trans Ew1.out Ew2.out)⟩
theorem sum_hlen {x u k : Nat} (hx : (halfOf x).length ≤ k) (hu : (halfOf u).length ≤ k) : (halfOf (x + u)).length ≤ k + 1 := by
  rw [halfOf_len] at hx hu ⊢
  rw [Nat.pow_succ]
  omega
theorem prod_hlen {x u a b : Nat} (hx : (halfOf x).length ≤ a) (hu : (halfOf u).length ≤ b) : (halfOf (x * u)).length ≤ a + b := by
  rw [halfOf_len] at hx hu ⊢
  exact pow_add_lt hx hu
theorem sgn_dvd {b : Bool} {x : Nat} {u : Nat} (h : (u : Int) ∣ sgn b x) : x % u = 0 := by
  have h1 : (u : Int) ∣ ((sgn b x).natAbs : Nat) := Int.dvd_natAbs.2 h
  rw [sgn_abs] at h1
  exact Nat.mod_eq_zero_of_dvd (Int.natCast_dvd_natCast.1 h1)
theorem sgn_divP (b : Bool) {x u : Nat} (h : x % u = 0) : sgn b (x / u) = sgn b x / (u : Int) := by
  unfold sgn
  cases b
  · simp
  · simp only [if_true]
    rw [Int.neg_ediv_of_dvd (Int.natCast_dvd_natCast.2 (Nat.dvd_of_mod_eq_zero h))]
    simp
end Go.Proofs.YtnofbjcikfofgaaGreat
