/- A part of the proof. -/
import Derived.Test.YtjinpfnefeiooaaGreatDivs
import Derived.Test.YtjinpfnefeiooaaGreatNums
namespace Go.Proofs.YtjinpfnefeiooaaGreat
open Go.RowKit

def QIs (w : World) (s : Bool) (A : Option Addr) (n c : Nat) (t : Bool) (B : Option Addr) (m d : Nat) (q : Rat) : Prop := ∃ z y, ZIs w s A n c z ∧ ZIs w t B m d y ∧ q = qOf z y
def QArg (w : World) (s : Bool) (A : Option Addr) (n c : Nat) (t : Bool) (B : Option Addr) (m d : Nat) (q : Rat) : Prop := QIs w s A n c t B m d q ∧ n ≤ 33554432 ∧ m ≤ 33554432
def QCan (w : World) (B0 : Nat) (s : Bool) (A : Option Addr) (n c : Nat) (t : Bool) (B : Option Addr) (m d : Nat) (q : Rat) : Prop := ZCan w B0 s A n c q.num ∧ ZCan w B0 t B m d (denOf q)
def RetQ (w : World) (q : Rat) (e : Ending) (w' : World) : Prop := ∃ s A n c t B m d, e = .returned (.agg #[.bool s, .slice A n c, .bool t, .slice B m d]) ∧ QCan w' w.heap.size s A n c t B m d q ∧ Ext w w'
theorem QIs.ext {w w' : World} {s : Bool} {A : Option Addr} {n c : Nat} {t : Bool} {B : Option Addr} {m d : Nat} {q : Rat} (h : QIs w s A n c t B m d q) (hb : Ext w w') : QIs w' s A n c t B m d q := by
 obtain ⟨z, y, h1, h2, h3⟩ := h
 exact ⟨z, y, h1.ext hb, h2.ext hb, h3⟩
theorem QArg.ext {w w' : World} {s : Bool} {A : Option Addr} {n c : Nat} {t : Bool} {B : Option Addr} {m d : Nat} {q : Rat} (h : QArg w s A n c t B m d q) (hb : Ext w w') : QArg w' s A n c t B m d q := ⟨h.1.ext hb, h.2⟩
theorem QCan.ext {w w' : World} {B0 : Nat} {s : Bool} {A : Option Addr} {n c : Nat} {t : Bool} {B : Option Addr} {m d : Nat} {q : Rat} (h : QCan w B0 s A n c t B m d q) (hb : Ext w w') : QCan w' B0 s A n c t B m d q := ⟨h.1.ext hb, h.2.ext hb⟩
theorem QCan.base {w : World} {B0 B1 : Nat} {s : Bool} {A : Option Addr} {n c : Nat} {t : Bool} {B : Option Addr} {m d : Nat} {q : Rat} (h : QCan w B0 s A n c t B m d q) (hb : B1 ≤ B0) : QCan w B1 s A n c t B m d q := ⟨h.1.base hb, h.2.base hb⟩
theorem QCan.is {w : World} {B0 : Nat} {s : Bool} {A : Option Addr} {n c : Nat} {t : Bool} {B : Option Addr} {m d : Nat} {q : Rat} (h : QCan w B0 s A n c t B m d q) : QIs w s A n c t B m d q := ⟨_, _, h.1.is, h.2.is, (qOf_self q).symm⟩
theorem QCan.put {w : World} {B0 : Nat} {s : Bool} {A : Option Addr} {n c : Nat} {t : Bool} {B : Option Addr} {m d : Nat} {q : Rat} (h : QCan w B0 s A n c t B m d q) {p : Addr} (hp : p.block < B0) (v : Value) : QCan (w.setCell p v) B0 s A n c t B m d q := ⟨h.1.put hp v, h.2.put hp v⟩
theorem denOf_lt {q : Rat} {k : Nat} (h : Sz k q) : (denOf q).natAbs < 4294967296 ^ k := by
 unfold denOf
 split
 ·have := h.2
  simp
  omega
 ·simpa using h.2
theorem QCan.len {w : World} {B0 : Nat} {s : Bool} {A : Option Addr} {n c : Nat} {t : Bool} {B : Option Addr} {m d : Nat} {q : Rat} (h : QCan w B0 s A n c t B m d q) {k : Nat} (hk : Sz k q) : n ≤ k ∧ m ≤ k := by
 refine ⟨?_, ?_⟩
 ·rw [← h.1.2.1.1]; exact wordsOf_len.2 hk.1
 ·rw [← h.2.2.1.1]; exact wordsOf_len.2 (denOf_lt hk)
theorem QCan.arg {w : World} {B0 : Nat} {s : Bool} {A : Option Addr} {n c : Nat} {t : Bool} {B : Option Addr} {m d : Nat} {q : Rat} (h : QCan w B0 s A n c t B m d q) {k : Nat} (hk : Sz k q) (hl : k ≤ 33554432) : QArg w s A n c t B m d q :=
 ⟨h.is, Nat.le_trans (h.len hk).1 hl, Nat.le_trans (h.len hk).2 hl⟩
theorem natAbs_ZIs {w : World} {s : Bool} {A : Option Addr} {n c : Nat} {z : Int} (h : ZIs w s A n c z) : z.natAbs < 4294967296 ^ n := by
 obtain ⟨xs, h1, _, _, rfl⟩ := h
 rw [sgn_abs, ← h1.1]
 exact natOf_lt h1.2.1
theorem QIs.sz {w : World} {s : Bool} {A : Option Addr} {n c : Nat} {t : Bool} {B : Option Addr} {m d : Nat} {q : Rat} (h : QIs w s A n c t B m d q) {k : Nat} (hn : n ≤ k) (hm : m ≤ k) (hk : 0 < k) : Sz k q := by
 obtain ⟨z, y, h1, h2, rfl⟩ := h
 exact sz_qOf hk (Nat.lt_of_lt_of_le (natAbs_ZIs h1) (pow_le hn)) (Nat.lt_of_lt_of_le (natAbs_ZIs h2) (pow_le hm))
theorem words_bd {w : World} {B0 : Nat} {s : Bool} {A : Option Addr} {n c : Nat} {z : Int} (h : ZCan w B0 s A n c z) {k : Nat} (hz : z.natAbs < 4294967296 ^ k) : n ≤ k := by
 rw [← h.2.1.1]
 exact wordsOf_len.2 hz
def Cell4 (w : World) (r : Nat) (v0 v1 v2 v3 : Value) : Prop :=
 (w.cell? ⟨r, 0, none⟩ = some v0 ∧ w.cell? ⟨r, 1, none⟩ = some v1 ∧ w.cell? ⟨r, 2, none⟩ = some v2 ∧ w.cell? ⟨r, 3, none⟩ = some v3) ∧
 (w.frozen? ⟨r, 0, none⟩ = false ∧ w.frozen? ⟨r, 1, none⟩ = false ∧ w.frozen? ⟨r, 2, none⟩ = false ∧ w.frozen? ⟨r, 3, none⟩ = false) ∧ r < w.heap.size
theorem Cell4.new (w : World) (r : Nat) (hr : w.heap.size = r) (v0 v1 v2 v3 : Value) (t : TypeId) : Cell4 (w.alloc (.cells #[v0, v1, v2, v3] t)) r v0 v1 v2 v3 := by
 subst hr
 refine ⟨⟨?_, ?_, ?_, ?_⟩, ⟨?_, ?_, ?_, ?_⟩, ?_⟩ <;> simp [go_sem]
theorem Cell4.ext {w w' : World} {r : Nat} {v0 v1 v2 v3 : Value} (h : Cell4 w r v0 v1 v2 v3) (hb : Ext w w') : Cell4 w' r v0 v1 v2 v3 :=
  ⟨⟨Ext.cellOf hb h.1.1, Ext.cellOf hb h.1.2.1, Ext.cellOf hb h.1.2.2.1, Ext.cellOf hb h.1.2.2.2⟩,
   ⟨(hb.frozen (p := ⟨r, 0, none⟩) h.2.2).trans h.2.1.1, (hb.frozen (p := ⟨r, 1, none⟩) h.2.2).trans h.2.1.2.1, (hb.frozen (p := ⟨r, 2, none⟩) h.2.2).trans h.2.1.2.2.1, (hb.frozen (p := ⟨r, 3, none⟩) h.2.2).trans h.2.1.2.2.2⟩, Nat.lt_of_lt_of_le h.2.2 hb.size⟩
theorem retQ_fill {w w1 : World} {r B0 : Nat} {s : Bool} {A : Option Addr} {n c : Nat} {t : Bool} {B : Option Addr} {m d : Nat} {q : Rat} (hr : w.heap.size ≤ r) (hB : r < B0) (hz : QCan w1 B0 s A n c t B m d q) (hb : Ext w w1) (v0 v1 v2 v3 : Value) :
  QCan ((((w1.setCell ⟨r, 0, none⟩ v0).setCell ⟨r, 1, none⟩ v1).setCell ⟨r, 2, none⟩ v2).setCell ⟨r, 3, none⟩ v3) w.heap.size s A n c t B m d q ∧ Ext w ((((w1.setCell ⟨r, 0, none⟩ v0).setCell ⟨r, 1, none⟩ v1).setCell ⟨r, 2, none⟩ v2).setCell ⟨r, 3, none⟩ v3) :=
 ⟨((((hz.put (p := ⟨r, 0, none⟩) hB v0).put (p := ⟨r, 1, none⟩) hB v1).put (p := ⟨r, 2, none⟩) hB v2).put (p := ⟨r, 3, none⟩) hB v3).base (by omega), Below.setCell (Below.setCell (Below.setCell (Below.setCell hb (p := ⟨r, 0, none⟩) hr v0) (p := ⟨r, 1, none⟩) hr v1) (p := ⟨r, 2, none⟩) hr v2) (p := ⟨r, 3, none⟩) hr v3⟩
end Go.Proofs.YtjinpfnefeiooaaGreat
namespace Go.Proofs.YtjinpfnefeiooaaGreat
open Go.RowKit

set_option maxRecDepth 100000 in
set_option maxHeartbeats 2000000 in
theorem qsign_any (s : Bool) (A : Option Addr) (n c : Nat) (t : Bool) (B : Option Addr) (m d : Nat) (q : Rat) (w : World) (h : QIs w s A n c t B m d q) :
  Calls Tryz.prog 80 #[.agg #[.bool s, .slice A n c, .bool t, .slice B m d]] w fun e w' => e = .returned (.int .i64 q.num.sign) ∧ Ext w w' := by
 obtain ⟨z, y, h1, h2, rfl⟩ := h
 have HS := LH (sign_qOf z y)
 have hz3 : -1 ≤ z.sign ∧ z.sign ≤ 1 := by rcases sign3 z with ⟨_, e⟩ | ⟨_, e⟩ | ⟨_, e⟩ <;> rw [e] <;> omega
 go_enter Tryz.func80, Tryz.ntmps80
 go_wp2_with fail
 have k0 := Cell4.new w _ rfl (.bool s) (.slice A n c) (.bool t) (.slice B m d) 29
 have hE : Ext w (w.alloc (.cells #[.bool s, .slice A n c, .bool t, .slice B m d] 29)) := Ext.al Ext.rfl' _
 generalize w.alloc (.cells #[.bool s, .slice A n c, .bool t, .slice B m d] 29) = w1 at *
 have h1' := h1.ext hE
 have h2' := h2.ext hE
 refine (sign_any t B m d y w1 h2').mono ?_
 rintro e w2 ⟨rfl, hE2⟩
 obtain ⟨⟨c0, c1, c2, c3⟩, _, _⟩ := k0.ext hE2
 have h1'' := h1'.ext hE2
 obtain ⟨v, hv⟩ : ∃ v, y.sign = v := ⟨_, rfl⟩
 have hvs : v < 0 ↔ y < 0 := by rw [← hv]; exact Int.sign_neg_iff
 rw [hv]
 clear k0 h1 h2 h1' h2' hv
 by_cases hy : y < 0
 ·have hb : decide (v < 0) = true := decide_eq_true (hvs.2 hy)
  have HR : Hid ((qOf z y).num.sign = -z.sign) := by unfold Hid; rw [HS.out, if_pos hy]
  clear hvs
  go_wp2_with fail
  refine (sign_any s A n c z w2 h1'').mono ?_
  rintro e w3 ⟨rfl, hE3⟩
  obtain ⟨u, hu⟩ : ∃ u, z.sign = u := ⟨_, rfl⟩
  rw [hu] at HR hz3 ⊢
  clear hu HS h1''
  go_wp2_with fail
  go_ret
  exact ⟨ret_i64 HR.out.symm, ET hE (ET hE2 hE3)⟩
 ·have hb : decide (v < 0) = false := decide_eq_false (fun e => hy (hvs.1 e))
  have HR : Hid ((qOf z y).num.sign = z.sign) := by unfold Hid; rw [HS.out, if_neg hy]
  clear hvs
  go_wp2_with fail
  refine (sign_any s A n c z w2 h1'').mono ?_
  rintro e w3 ⟨rfl, hE3⟩
  obtain ⟨u, hu⟩ : ∃ u, z.sign = u := ⟨_, rfl⟩
  rw [hu] at HR hz3 ⊢
  clear hu HS h1''
  go_wp2_with fail
  go_ret
  exact ⟨ret_i64 HR.out.symm, ET hE (ET hE2 hE3)⟩
set_option maxRecDepth 100000 in
set_option maxHeartbeats 2000000 in
theorem qfrom_any (z : Int) (w : World) (hz : I64r z) :
  Calls Tryz.prog 24 #[.int .i64 z] w (RetQ w (z : Rat)) := by
 go_enter Tryz.func24, Tryz.ntmps24
 go_wp2_with fail
 have k0 := Cell4.new w _ rfl (.bool false) (.slice none 0 0) (.bool false) (.slice none 0 0) 29
 have hE : Ext w (w.alloc (.cells #[.bool false, .slice none 0 0, .bool false, .slice none 0 0] 29)) := Ext.al Ext.rfl' _
 generalize w.alloc (.cells #[.bool false, .slice none 0 0, .bool false, .slice none 0 0] 29) = w1 at *
 have hsz : w.heap.size < w1.heap.size := k0.2.2
 refine (fromInt_any z w1 hz).mono ?_
 rintro e w2 ⟨b, A, n, c, rfl, hZ, hE2⟩
 obtain ⟨⟨c0, c1, c2, c3⟩, ⟨f0, f1, f2, f3⟩, hl⟩ := k0.ext hE2
 have HZ := LH hZ
 have HE := LH (ET hE hE2)
 clear hZ hE hE2 k0
 go_wp2_with fail
 refine bodyPost_ret (v := .agg #[.bool b, .slice A n c, .bool false, .slice none 0 0]) (by simp [results, Tryz.results24, go_sem, c0, c1, c2, c3]) rfl ?_
 have hq : QCan w2 w1.heap.size b A n c false none 0 0 (z : Rat) := ⟨HZ.out, zcan_zero _ _⟩
 exact ⟨_, _, _, _, _, _, _, _, rfl, retQ_fill (Nat.le_refl _) hsz hq HE.out _ _ _ _⟩
end Go.Proofs.YtjinpfnefeiooaaGreat
namespace Go.Proofs.YtjinpfnefeiooaaGreat
open Go.RowKit

def RetShort (w : World) (q : Rat) (e : Ending) (w' : World) : Prop := ∃ (N D : Int) (t : Bool), e = .returned (.tuple #[.int .i64 N, .int .i64 D, .bool t]) ∧ (t = true → 0 < D ∧ D < 2147483648 ∧ -2147483648 < N ∧ N < 2147483648 ∧ q = Rat.divInt N D) ∧ Ext w w'
set_option maxRecDepth 100000 in
set_option maxHeartbeats 4000000 in
theorem short_any (s : Bool) (A : Option Addr) (n c : Nat) (t : Bool) (B : Option Addr) (m d : Nat) (q : Rat) (w : World) (h : QIs w s A n c t B m d q) :
  Calls Tryz.prog 52 #[.agg #[.bool s, .slice A n c, .bool t, .slice B m d]] w (RetShort w q) := by
 obtain ⟨z, y, h1, h2, hq⟩ := h
 have HQ := LH hq
 clear hq
 go_enter Tryz.func52, Tryz.ntmps52
 go_wp2_with fail
 have k0 := Cell4.new w _ rfl (.bool s) (.slice A n c) (.bool t) (.slice B m d) 29
 have hE : Ext w (w.alloc (.cells #[.bool s, .slice A n c, .bool t, .slice B m d] 29)) := Ext.al Ext.rfl' _
 generalize w.alloc (.cells #[.bool s, .slice A n c, .bool t, .slice B m d] 29) = w1 at *
 refine (int64_any s A n c z w1 (h1.ext hE)).mono ?_
 rintro e w2 ⟨rfl, hE2⟩
 obtain ⟨⟨c0, c1, c2, c3⟩, _, _⟩ := k0.ext hE2
 have h2' := (h2.ext hE).ext hE2
 obtain ⟨vz, hvz⟩ : ∃ v, i64V z = v := ⟨_, rfl⟩
 obtain ⟨bz, hbz⟩ : ∃ v, i64B z = v := ⟨_, rfl⟩
 rw [hvz, hbz]
 clear k0 h1 h2
 go_wp2_with fail
 refine (int64_any t B m d y w2 h2').mono ?_
 rintro e w3 ⟨rfl, hE3⟩
 obtain ⟨vy, hvy⟩ : ∃ v, i64V y = v := ⟨_, rfl⟩
 obtain ⟨by', hby⟩ : ∃ v, i64B y = v := ⟨_, rfl⟩
 rw [hvy, hby]
 have HE := LH (ET hE (ET hE2 hE3))
 have HZ : Hid (bz = true → vz = z) := fun e => by rw [← hvz]; unfold i64V; rw [hbz, e]; rfl
 have HY : Hid (by' = true → vy = y) := fun e => by rw [← hvy]; unfold i64V; rw [hby, e]; rfl
 clear hvz hbz hvy hby h2' hE hE2 hE3 c0 c1 c2 c3
 cases bz
 ·go_wp2_with fail
  go_ret3
  exact ⟨_, _, _, rfl, (fun e => by cases e), HE.out⟩
 cases by'
 ·go_wp2_with fail
  go_ret3
  exact ⟨_, _, _, rfl, (fun e => by cases e), HE.out⟩
 have ez := HZ.out rfl
 have ey := HY.out rfl
 subst ez ey
 clear HZ HY
 by_cases h1 : vz ≤ -2147483648
 ·have hb1 : decide (vz ≤ -2147483648) = true := decide_eq_true h1
  go_wp2_with fail
  go_ret3
  exact ⟨_, _, _, rfl, (fun e => by cases e), HE.out⟩
 have hb1 : decide (vz ≤ -2147483648) = false := decide_eq_false h1
 by_cases h2 : 2147483648 ≤ vz
 ·have hb2 : decide (2147483648 ≤ vz) = true := decide_eq_true h2
  go_wp2_with fail
  go_ret3
  exact ⟨_, _, _, rfl, (fun e => by cases e), HE.out⟩
 have hb2 : decide (2147483648 ≤ vz) = false := decide_eq_false h2
 by_cases h3 : vy ≤ -2147483648
 ·have hb3 : decide (vy ≤ -2147483648) = true := decide_eq_true h3
  go_wp2_with fail
  go_ret3
  exact ⟨_, _, _, rfl, (fun e => by cases e), HE.out⟩
 have hb3 : decide (vy ≤ -2147483648) = false := decide_eq_false h3
 by_cases h4 : 2147483648 ≤ vy
 ·have hb4 : decide (2147483648 ≤ vy) = true := decide_eq_true h4
  go_wp2_with fail
  go_ret3
  exact ⟨_, _, _, rfl, (fun e => by cases e), HE.out⟩
 have hb4 : decide (2147483648 ≤ vy) = false := decide_eq_false h4
 have i1 : -2147483648 < vz := by omega
 have i2 : vz < 2147483648 := by omega
 have i3 : -2147483648 < vy := by omega
 have i4 : vy < 2147483648 := by omega
 clear h1 h2 h3 h4
 rcases Int.lt_trichotomy vy 0 with hy | hy | hy
 ·have hb5 : (vy == 0) = false := by simp; omega
  have hb6 : decide (vy < 0) = true := decide_eq_true hy
  have HR : Hid (q = Rat.divInt (-vz) (-vy)) := HQ.out.trans (qOf_neg hy)
  go_wp2_with fail
  go_ret3
  exact ⟨_, _, _, rfl, fun _ => ⟨by omega, by omega, by omega, by omega, HR.out⟩, HE.out⟩
 ·subst hy
  have HR : Hid (q = Rat.divInt vz 1) := HQ.out.trans ((qOf_zero vz).trans (divInt_one vz).symm)
  go_wp2_with fail
  go_ret3
  exact ⟨_, _, _, rfl, fun _ => ⟨by omega, by omega, by omega, by omega, HR.out⟩, HE.out⟩
 ·have hb5 : (vy == 0) = false := by simp; omega
  have hb6 : decide (vy < 0) = false := decide_eq_false (by omega)
  have HR : Hid (q = Rat.divInt vz vy) := HQ.out.trans (qOf_pos hy)
  go_wp2_with fail
  go_ret3
  exact ⟨_, _, _, rfl, fun _ => ⟨by omega, by omega, by omega, by omega, HR.out⟩, HE.out⟩
end Go.Proofs.YtjinpfnefeiooaaGreat
namespace Go.Proofs.YtjinpfnefeiooaaGreat
open Go.RowKit

theorem gcd_tstep (m n : Int) : Int.gcd n (m.tmod n) = Int.gcd m n := by
 unfold Int.gcd
 rw [Int.natAbs_tmod, gcd_step]
theorem tdiv_exact {N g : Int} (h : g ∣ N) : N.tdiv g = N / g := Int.tdiv_eq_ediv_of_dvd h
set_option maxRecDepth 100000 in
set_option maxHeartbeats 4000000 in
theorem ratio_any (N D : Int) (w : World) (hN1 : -9223372036854775808 < N) (hN2 : N < 9223372036854775808) (hD1 : 0 < D) (hD2 : D < 9223372036854775808) :
  Calls Tryz.prog 53 #[.int .i64 N, .int .i64 D] w (RetQ w (Rat.divInt N D)) := by
 obtain ⟨g, hg⟩ : ∃ g, Int.gcd N D = g := ⟨_, rfl⟩
 have HN : Hid ((Rat.divInt N D).num = N / (g : Int)) := by unfold Hid; rw [num_red hD1, hg]
 have HD : Hid (((Rat.divInt N D).den : Int) = D / (g : Int)) := by unfold Hid; rw [den_red hD1, hg]
 have hg0 : 0 < g := by
  rcases Nat.eq_zero_or_pos g with h0 | h0
  ·rw [h0] at hg
   have := (Int.gcd_eq_zero_iff.1 hg).2
   omega
  ·exact h0
 have HV : Hid ((g : Int) ∣ N ∧ (g : Int) ∣ D) := by rw [← hg]; exact ⟨Int.gcd_dvd_left .., Int.gcd_dvd_right ..⟩
 have HG := LH hg
 clear hg
 go_enter Tryz.func53, Tryz.ntmps53
 go_wp2_with fail
 have k0 := Cell4.new w _ rfl (.bool false) (.slice none 0 0) (.bool false) (.slice none 0 0) 29
 have hE : Ext w (w.alloc (.cells #[.bool false, .slice none 0 0, .bool false, .slice none 0 0] 29)) := Ext.al Ext.rfl' _
 generalize w.alloc (.cells #[.bool false, .slice none 0 0, .bool false, .slice none 0 0] 29) = w1 at *
 have K0 := LH k0
 have HE := LH hE
 have hsz : w.heap.size < w1.heap.size := k0.2.2
 clear k0 hE
 go_loopw [5, 6] (fun p q wr => ∃ (P Q : Int), p = .int .i64 P ∧ q = .int .i64 Q ∧ -9223372036854775808 < P ∧ P < 9223372036854775808 ∧ -9223372036854775808 < Q ∧ Q < 9223372036854775808 ∧ Hid (Int.gcd P Q = g ∧ Ext w1 wr)) (fun _ q _ => (intOf q).natAbs)
 case atStart => exact ⟨N, D, rfl, rfl, hN1, hN2, by omega, hD2, HG.out, Ext.rfl'⟩
 case round =>
  obtain ⟨P, Q, rfl, rfl, hP1, hP2, hQ1, hQ2, HI⟩ := hrel
  by_cases hq0 : Q = 0
  ·subst hq0
   have hgP : P.natAbs = g := by have := HI.out.1; rwa [Int.gcd_zero_right] at this
   have HEX := LH HI.out.2
   obtain ⟨G, hG⟩ : ∃ G : Int, (g : Int) = G := ⟨_, rfl⟩
   rw [hG] at HN HD HV
   have HG2 := LH hG
   have hGb : G < 9223372036854775808 := by omega
   have hG0 : 0 < G := by omega
   clear hG
   have hgz : (G == 0) = false := by simp; omega
   have hgi : (0 : Int) < G := by omega
   obtain ⟨u, hu⟩ : ∃ u, N.tdiv G = u := ⟨_, rfl⟩
   obtain ⟨v, hv⟩ : ∃ v, D.tdiv G = v := ⟨_, rfl⟩
   have hu1 : u = N / G := by rw [← hu, tdiv_exact HV.out.1]
   have hv1 : v = D / G := by rw [← hv, tdiv_exact HV.out.2]
   have hub : u.natAbs ≤ N.natAbs := by rw [hu1, Int.natAbs_ediv_of_dvd HV.out.1]; exact Nat.div_le_self _ _
   have hvb : v.natAbs ≤ D.natAbs := by rw [hv1, Int.natAbs_ediv_of_dvd HV.out.2]; exact Nat.div_le_self _ _
   have hub1 : -9223372036854775808 < u := by omega
   have hub2 : u < 9223372036854775808 := by omega
   have hvb1 : -9223372036854775808 < v := by omega
   have hvb2 : v < 9223372036854775808 := by omega
   have HNU : Hid ((Rat.divInt N D).num = u) := by unfold Hid; rw [hu1]; exact HN.out
   have HDV : Hid (denOf (Rat.divInt N D) = if G = D then 0 else v) := by
    unfold Hid denOf
    have h1 := HD.out
    rw [← hv1] at h1
    have h2 : G * v = D := by rw [hv1, Int.mul_ediv_cancel' HV.out.2]
    by_cases e : G = D
    ·rw [if_pos e, if_pos]
     have h3 : G * v = G * 1 := by rw [h2, Int.mul_one, e]
     have h4 := Int.eq_of_mul_eq_mul_left (by omega) h3
     omega
    ·rw [if_neg e, if_neg, h1]
     intro h5
     rw [h5] at h1
     apply e
     rw [← h2, ← h1]
     simp
   clear hu1 hv1 hub hvb HI HN HD HV HG hQ1 hQ2
   by_cases hgd : G = D
   ·have hgb : (G == D) = true := by simp [hgd]
    have HGD : Hid (denOf (Rat.divInt N D) = 0) := by unfold Hid; rw [HDV.out, if_pos hgd]
    clear hgd
    have hp2 : P = G ∨ P = -G := by have := HG2.out; omega
    clear hgP HG2
    rcases hp2 with rfl | rfl
    all_goals
     go_wp2_with fail
     refine (fromInt_any u wr ⟨by omega, by omega⟩).mono ?_
     rintro e w2 ⟨b, A, n, c, rfl, hZ, hE2⟩
     have hX := ET HEX.out hE2
     obtain ⟨⟨c0, c1, c2, c3⟩, ⟨f0, f1, f2, f3⟩, hl⟩ := K0.out.ext hX
     have hsr : w1.heap.size ≤ wr.heap.size := HEX.out.size
     have HZ := LH hZ
     have HE2 := LH (ET HE.out hX)
     clear hZ hE2 hX
     go_wp2_with fail
     refine bodyPost_ret (v := .agg #[.bool b, .slice A n c, .bool false, .slice none 0 0]) (by simp [results, Tryz.results53, go_sem, c0, c1, c2, c3]) rfl ?_
     have hq : QCan w2 wr.heap.size b A n c false none 0 0 (Rat.divInt N D) := ⟨by rw [HNU.out]; exact HZ.out, by rw [HGD.out]; exact zcan_zero _ _⟩
     exact ⟨_, _, _, _, _, _, _, _, rfl, retQ_fill (Nat.le_refl _) (by omega) hq HE2.out _ _ _ _⟩
   ·have hgb : (G == D) = false := by simp [hgd]
    have HGD : Hid (denOf (Rat.divInt N D) = v) := by unfold Hid; rw [HDV.out, if_neg hgd]
    clear hgd
    have hp2 : P = G ∨ P = -G := by have := HG2.out; omega
    clear hgP HG2
    rcases hp2 with rfl | rfl
    all_goals
     go_wp2_with fail
     refine wp_region_lex (C := InX wr.drew []) (by kernel_rfl) (by kernel_rfl) (inX_self _ _) ?_
     repeat (refine wpLex_still (by rfl) ?_; go_big_quiet_step (fail); refine wpQuiet_nil ?_)
     refine wpLex_move (by rfl) (by rfl) ?_
     go_wp2_with fail
     refine (fromInt_any u wr.drew ⟨by omega, by omega⟩).mono ?_
     rintro e w2 ⟨b, A, n, c, rfl, hZ, hE2⟩
     go_wp2_with fail
     refine And.intro (inX_ext (inX_self _ _) hE2) ?_
     repeat (refine wpLex_still (by rfl) ?_; go_big_quiet_step (fail); refine wpQuiet_nil ?_)
     refine wpLex_move (by rfl) (by rfl) ?_
     go_wp2_with fail
     refine (fromInt_any v w2 ⟨by omega, by omega⟩).mono ?_
     rintro e w3 ⟨b', A', n', c', rfl, hZ', hE3⟩
     go_wp2_with fail
     refine And.intro (inX_ext (inX_ext (inX_self _ _) hE2) hE3) ?_
     repeat (refine wpLex_still (by rfl) ?_; go_big_quiet_step (fail); refine wpQuiet_nil ?_)
     have hX := ET (Below.drew HEX.out) (ET hE2 hE3)
     obtain ⟨⟨c0, c1, c2, c3⟩, ⟨f0, f1, f2, f3⟩, hl⟩ := K0.out.ext hX
     have hsr : w1.heap.size ≤ wr.heap.size := HEX.out.size
     have hsr2 : wr.heap.size ≤ w2.heap.size := hE2.size
     have HZ := LH (hZ.ext hE3)
     have HZ' := LH (hZ'.base (B' := wr.heap.size) hsr2)
     have HE2 := LH (ET HE.out hX)
     clear hZ hE2 hX hZ' hE3
     refine wpLex_last (by rfl) (by kernel_rfl) (by rfl) ?_
     go_wp2_with fail
     refine And.intro trivial (wpLex_nil ?_)
     go_wp2_with fail
     refine bodyPost_ret (v := .agg #[.bool b, .slice A n c, .bool b', .slice A' n' c']) (by simp [results, Tryz.results53, go_sem, c0, c1, c2, c3]) rfl ?_
     have hq : QCan w3 wr.heap.size b A n c b' A' n' c' (Rat.divInt N D) := ⟨by rw [HNU.out]; exact HZ.out, by rw [HGD.out]; exact HZ'.out⟩
     exact ⟨_, _, _, _, _, _, _, _, rfl, retQ_fill (Nat.le_refl _) (by omega) hq HE2.out _ _ _ _⟩
  ·have hb : (Q != 0) = true := by simp; omega
   obtain ⟨r, hr⟩ : ∃ r, P.tmod Q = r := ⟨_, rfl⟩
   have HR : Hid (Int.gcd Q r = g ∧ r.natAbs < Q.natAbs) := by
    unfold Hid
    rw [← hr, gcd_tstep]
    refine ⟨HI.out.1, ?_⟩
    rw [Int.natAbs_tmod]
    exact Nat.mod_lt _ (by omega)
   have hr2 := HR.out.2
   have HEX := LH HI.out.2
   clear HI
   go_wp2_with fail
   go_quiet (fail)
   go_wp2_with fail
   go_roundw
   case rel => exact ⟨Q, r, rfl, by go_num, hQ1, hQ2, by omega, by omega, HR.out.1, below_drewN HEX.out _⟩
   case measure => simp [intOf]; exact hr2
end Go.Proofs.YtjinpfnefeiooaaGreat
