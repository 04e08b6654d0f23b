/- A part of the proof. -/
import Derived.Test.YtjinpfnefeiooaaGreatRefB
namespace Go.Proofs.YtjinpfnefeiooaaGreat
open Go.RowKit

structure Turn (k : Value → Prop) (B : Nat) (w w' : World) : Prop where
 other : ∀ p v, w.cell? p = some v → ¬ k v → w'.cell? p = some v
 kind : ∀ p v, w.cell? p = some v → k v → ∃ v', w'.cell? p = some v' ∧ k v'
 frozen : ∀ p, w'.frozen? p = w.frozen? p
 ext : ∀ w0, Ext w0 w → w0.heap.size ≤ B → Ext w0 w'
 size : w.heap.size ≤ w'.heap.size
theorem Turn.refl (k : Value → Prop) (B : Nat) (w : World) : Turn k B w w := ⟨fun _ _ h _ => h, fun _ v h hk => ⟨v, h, hk⟩, fun _ => rfl, fun _ h _ => h, Nat.le_refl _⟩
theorem Turn.put {k : Value → Prop} {B : Nat} {w w' : World} (h : Turn k B w w') {p : Addr} {x : Value} (hp : w'.cell? p = some x) (hx : k x) (hB : B ≤ p.block) {y : Value} (hy : k y) : Turn k B w (w'.setCell p y) := by
 refine ⟨fun q v hq hv => ?_, fun q v hq hv => ?_, fun q => by rw [World.frozen?_setCell]; exact h.frozen q, fun w0 h0 hb => Below.setCell (h.ext w0 h0 hb) (Nat.le_trans hb hB) _, by simpa [World.setCell] using h.size⟩
 ·by_cases e : p = q
  ·subst e
   have h1 := (h.other p v hq hv).symm.trans hp
   injection h1 with h1
   subst h1
   exact absurd hx hv
  ·rw [World.cell?_setCell_other _ _ _ _ e]
   exact h.other q v hq hv
 ·by_cases e : p = q
  ·subst e
   exact ⟨y, World.cell?_setCell_same' _ _ _ (by rw [hp]; rfl), hy⟩
  ·rw [World.cell?_setCell_other _ _ _ _ e]
   exact h.kind q v hq hv
def isB (v : Value) : Prop := ∃ b, v = .bool b
def isU (v : Value) : Prop := ∃ x, v = .int .u32 x
def KAt (k : Value → Prop) (w : World) (B : Nat) (A : Option Addr) (n : Nat) : Prop := 0 < n → ∃ b off, A = some ⟨b, off, none⟩ ∧ B ≤ b ∧ ∀ i, i < n → (∃ v, w.cell? ⟨b, off + i, none⟩ = some v ∧ k v) ∧ w.frozen? ⟨b, off + i, none⟩ = false
theorem KAt.ext {k : Value → Prop} {w w' : World} {B : Nat} {A : Option Addr} {n : Nat} (h : KAt k w B A n) (hb : Ext w w') : KAt k w' B A n := fun hn => by
 obtain ⟨b, off, e, hB, hc⟩ := h hn
 refine ⟨b, off, e, hB, fun i hi => ?_⟩
 obtain ⟨⟨v, hv, hk⟩, hf⟩ := hc i hi
 exact ⟨⟨v, Ext.cellOf hb hv, hk⟩, (hb.frozen (p := ⟨b, off + i, none⟩) (World.block_lt_of_cell? _ _ hv)).trans hf⟩
theorem KAt.turn {k k' : Value → Prop} {w w' : World} {B B' : Nat} {A : Option Addr} {n : Nat} (h : KAt k w B A n) (ht : Turn k' B' w w') (hd : ∀ v, k v → ¬ k' v) : KAt k w' B A n := fun hn => by
 obtain ⟨b, off, e, hB, hc⟩ := h hn
 refine ⟨b, off, e, hB, fun i hi => ?_⟩
 obtain ⟨⟨v, hv, hk⟩, hf⟩ := hc i hi
 exact ⟨⟨v, ht.other _ v hv (hd v hk), hk⟩, (ht.frozen _).trans hf⟩
theorem KAt.base {k : Value → Prop} {w : World} {B B' : Nat} {A : Option Addr} {n : Nat} (h : KAt k w B A n) (hb : B' ≤ B) : KAt k w B' A n := fun hn => by
 obtain ⟨b, off, e, hB, hc⟩ := h hn
 exact ⟨b, off, e, by omega, hc⟩
theorem ZCan.kat {w : World} {B : Nat} {b : Bool} {A : Option Addr} {n c : Nat} {z : Int} (h : ZCan w B b A n c z) : KAt isU w B A n := fun hn => by
 obtain ⟨b1, off, e, hl, hc⟩ := h.2.1.2.2 hn
 obtain ⟨b2, off2, e2, hB, h2, hf⟩ := h.2.2.2.2 _ e
 injection e2 with e3 e4
 subst e3 e4
 exact ⟨b1, off, e, hB, fun k hk => ⟨⟨_, hc k hk, ⟨_, rfl⟩⟩, hf k⟩⟩
def bestN (u : U) (ps : List Rat) : Nat := if u.pchk ps.length = 0 then ps.length else 0
def bestL (u : U) (ps : List Rat) : List Bool := if u.pchk ps.length = 0 then u.path ps u.init else []
theorem RetBest.row {w w' : World} {u : U} {ps : List Rat} {e : Ending} (h : RetBest w u ps e w') : ∃ R d s A n c t B m d', e = .returned (.tuple #[.slice R (bestN u ps) d, .agg #[.bool s, .slice A n c, .bool t, .slice B m d'], .int .i64 (u.pchk ps.length)]) ∧ QCan w' w.heap.size s A n c t B m d' (u.bestV ps) ∧ Ext w w' ∧
  BoolsAt w' R (bestN u ps) (bestL u ps) ∧ KAt isB w' w.heap.size R (bestN u ps) := by
 obtain ⟨v, s, A, n, c, t, B, m, d', rfl, hQ, hE, h1, h2⟩ := h
 unfold bestN bestL
 by_cases h0 : u.pchk ps.length = 0
 ·obtain ⟨g, rfl, hg, hR, hc⟩ := h2 h0
  simp only [if_pos h0]
  exact ⟨_, _, s, A, n, c, t, B, m, d', rfl, hQ, hE, best_bools (best_facts h0).2.2.2 hR hc, fun _ => ⟨g, 0, rfl, hg, fun i hi => ⟨⟨_, by rw [Nat.zero_add]; exact hc i hi, ⟨_, rfl⟩⟩, by rw [Nat.zero_add]; exact hR.2.2 i⟩⟩⟩
 ·obtain rfl := h1 h0
  simp only [if_neg h0]
  exact ⟨none, 0, s, A, n, c, t, B, m, d', rfl, hQ, hE, ⟨rfl, fun h => absurd h (by omega)⟩, fun h => absurd h (by omega)⟩
theorem RetBestR.row {w w' : World} {u : U} {ps : List Rat} {e : Ending} (h : RetBestR w u ps e w') : ∃ R d s A n c t B m d', e = .returned (.tuple #[.slice R (bestN u ps) d, .agg #[.bool s, .slice A n c, .bool t, .slice B m d'], .int .i64 (u.pchk ps.length)]) ∧ QCan w' w.heap.size s A n c t B m d' (u.bestV ps) ∧ Ext w w' ∧
  BoolsAt w' R (bestN u ps) (bestL u ps) := by
 obtain ⟨v, s, A, n, c, t, B, m, d', rfl, hQ, hE, h1, h2⟩ := h
 unfold bestN bestL
 by_cases h0 : u.pchk ps.length = 0
 ·obtain ⟨R, d, rfl, hB⟩ := h2 h0
  simp only [if_pos h0]
  exact ⟨_, _, s, A, n, c, t, B, m, d', rfl, hQ, hE, hB⟩
 ·obtain rfl := h1 h0
  simp only [if_neg h0]
  exact ⟨none, 0, s, A, n, c, t, B, m, d', rfl, hQ, hE, ⟨rfl, fun h => absurd h (by omega)⟩⟩
theorem bestN_le (u : U) (ps : List Rat) : bestN u ps ≤ 8 := by
 unfold bestN
 split
 ·exact (pchk_zero.1 ‹_›).2
 ·omega
set_option maxRecDepth 100000 in
set_option maxHeartbeats 16000000 in
theorem pbm_any (u : U) (A : Option Addr) (n c : Nat) (P : Option Addr) (k cp : Nat) (ps : List Rat) (ln : Nat → Nat × Nat)  (w : World) (hs : StepsAt w A n u.steps) (hn : n ≤ maxLen) (hp : QsRaw w P k ps ln) (hk : k ≤ maxLen) :
  Calls Tryz.prog 4 #[u.val A n c, .slice P k cp] w fun e w' => e = .returned (.bool true) ∧ Ext w w' := by
 have HS := LH hs
 have HP := LH hp
 have HPL := LH hp.1
 clear hs hp
 have HKM := LH hk
 go_enter Tryz.func4, Tryz.ntmps4
 go_wp2_with fail
 have k0 := UBox.new (w) (w.heap.size) (by simp) u A n c 24
 have hE : Ext w ((w).alloc (.cells #[.int .i64 u.bus, .int .i64 u.mn, .slice A n c, .int .i64 u.up, .int .i64 u.down, .int .i64 u.start, .int .i64 u.idle, .int .i64 u.spin, .int .i64 u.on] 24)) := (Ext.al Ext.rfl' _)
 have hsz : ((w).alloc (.cells #[.int .i64 u.bus, .int .i64 u.mn, .slice A n c, .int .i64 u.up, .int .i64 u.down, .int .i64 u.start, .int .i64 u.idle, .int .i64 u.spin, .int .i64 u.on] 24)).heap.size = w.heap.size + 1 := by simp
 generalize (w).alloc (.cells #[.int .i64 u.bus, .int .i64 u.mn, .slice A n c, .int .i64 u.up, .int .i64 u.down, .int .i64 u.start, .int .i64 u.idle, .int .i64 u.spin, .int .i64 u.on] 24) = w1 at *
 have SZw1 := LH hsz
 clear hsz
 have Ew1 := LH hE
 clear hE
 have Ku := LH k0
 clear k0
 refine (long27_any u A n c P k cp ps ln none 0 0 w1 (HP.out.ext Ew1.out) hk).mono ?_
 rintro e w2 ⟨⟨bl, rfl, hbl⟩, hE⟩
 have Ew2 := LH hE
 clear hE
 have HLN := LH hbl
 clear hbl
 cases bl
 rotate_left
 ·skip
  go_wp2_with fail
  refine (awake_any w2).mono ?_
  rintro e wz ⟨rfl, hEz⟩
  go_wp2_with fail
  go_ret
  exact ⟨rfl, ET (ET Ew1.out Ew2.out) hEz⟩
 obtain ⟨hn100, hm100, hk30, hl6⟩ := HLN.out rfl
 clear HLN
 have HPA := LH (HP.out.at hl6)
 have HS6 : Hid (∀ i, i < k → Sz 6 (ps.getD i 0)) := fun i hi => HP.out.sz6 hl6 hi
 have HSZ : Hid (∀ i, i < ps.length → Sz 1000 (ps.getD i 0)) := fun i hi => (HS6.out i (by rw [← HPL.out]; exact hi)).mono (by omega)
 clear hl6
 have HZ6 : Hid (∀ i, i < ps.length → Sz 6 (ps.getD i 0)) := fun i hi => HS6.out i (by rw [← HPL.out]; exact hi)
 have hN8 := bestN_le u ps
 have zu := World.block_lt_of_cell? _ _ (Ku.out.ext Ew2.out).1
 have xu0 := (Ku.out.ext Ew2.out).1
 have xu1 := (Ku.out.ext Ew2.out).2.1
 have xu2 := (Ku.out.ext Ew2.out).2.2.1
 have xu3 := (Ku.out.ext Ew2.out).2.2.2.1
 have xu4 := (Ku.out.ext Ew2.out).2.2.2.2.1
 have xu5 := (Ku.out.ext Ew2.out).2.2.2.2.2.1
 have xu6 := (Ku.out.ext Ew2.out).2.2.2.2.2.2.1
 have xu7 := (Ku.out.ext Ew2.out).2.2.2.2.2.2.2.1
 have xu8 := (Ku.out.ext Ew2.out).2.2.2.2.2.2.2.2
 go_wp2_with fail
 clear zu xu0 xu1 xu2 xu3 xu4 xu5 xu6 xu7 xu8
 refine (rBest_any u A n c P k cp ps w2 (HS.out.below (ET Ew1.out Ew2.out)) hn (HPA.out.ext (ET Ew1.out Ew2.out)) HKM.out HZ6.out).mono ?_
 intro e w3 hr
 obtain ⟨RW, dW, sm, Am, nm, cm, tm, Bm, mm, dm, rfl, hQ, hE, hB⟩ := hr.row
 have Qm := LH hQ
 have HBW := LH hB
 clear hr hQ hB
 have Ew3 := LH hE
 clear hE
 obtain ⟨N, hN⟩ : ∃ v, bestN u ps = v := ⟨_, rfl⟩
 obtain ⟨XL, hXL⟩ : ∃ v, bestL u ps = v := ⟨_, rfl⟩
 obtain ⟨ce, hce⟩ : ∃ v, u.pchk ps.length = v := ⟨_, rfl⟩
 rw [hN, hXL] at HBW
 rw [hN] at hN8
 rw [hN, hce]
 have HN := LH hN
 have HXL := LH hXL
 have HCE := LH hce
 clear hN hXL hce
 have hb1 : (ce != ce) = false := by simp
 have hb1' : (ce == ce) = true := by simp
 have zu := World.block_lt_of_cell? _ _ (Ku.out.ext (ET Ew2.out Ew3.out)).1
 have xu0 := (Ku.out.ext (ET Ew2.out Ew3.out)).1
 have xu1 := (Ku.out.ext (ET Ew2.out Ew3.out)).2.1
 have xu2 := (Ku.out.ext (ET Ew2.out Ew3.out)).2.2.1
 have xu3 := (Ku.out.ext (ET Ew2.out Ew3.out)).2.2.2.1
 have xu4 := (Ku.out.ext (ET Ew2.out Ew3.out)).2.2.2.2.1
 have xu5 := (Ku.out.ext (ET Ew2.out Ew3.out)).2.2.2.2.2.1
 have xu6 := (Ku.out.ext (ET Ew2.out Ew3.out)).2.2.2.2.2.2.1
 have xu7 := (Ku.out.ext (ET Ew2.out Ew3.out)).2.2.2.2.2.2.2.1
 have xu8 := (Ku.out.ext (ET Ew2.out Ew3.out)).2.2.2.2.2.2.2.2
 go_wp2_with fail
 clear zu xu0 xu1 xu2 xu3 xu4 xu5 xu6 xu7 xu8
 have kw4 := Cell4.new w3 _ rfl (.bool sm) (.slice Am nm cm) (.bool tm) (.slice Bm mm dm) 29
 have hE : Ext w3 (w3.alloc (.cells #[.bool sm, .slice Am nm cm, .bool tm, .slice Bm mm dm] 29)) := Ext.al Ext.rfl' _
 generalize w3.alloc (.cells #[.bool sm, .slice Am nm cm, .bool tm, .slice Bm mm dm] 29) = w4 at *
 have Ew4 := LH hE
 clear hE
 have Km := LH kw4
 clear kw4
 go_loopw [8] (fun i wr => ∃ k : Nat, k ≤ 2 ∧ i = .int .i64 k ∧ Hid (Ext w4 wr)) (fun i _ => 2 - (intOf i).toNat)
 case atStart => exact ⟨0, by omega, rfl, Ext.rfl'⟩
 case round =>
  obtain ⟨q, hq, rfl, HEL⟩ := hrel
  by_cases hlt : q < 2
  rotate_left
  ·have hbv : decide ((q : Int) < 2) = false := by simp; omega
   have hbv2 : decide (q < 2) = false := by simp; omega
   go_wp2_with fail
   refine (awake_any wr).mono ?_
   rintro e wz ⟨rfl, hEz⟩
   go_wp2_with fail
   go_ret
   exact ⟨rfl, ET (ET Ew1.out (ET Ew2.out (ET Ew3.out (ET Ew4.out HEL.out)))) hEz⟩
  ·have hbv : decide ((q : Int) < 2) = true := by simp; omega
   have hbv2 : decide (q < 2) = true := by simp; omega
   have zu := World.block_lt_of_cell? _ _ (Ku.out.ext (ET Ew2.out (ET Ew3.out (ET Ew4.out HEL.out)))).1
   have xu0 := (Ku.out.ext (ET Ew2.out (ET Ew3.out (ET Ew4.out HEL.out)))).1
   have xu1 := (Ku.out.ext (ET Ew2.out (ET Ew3.out (ET Ew4.out HEL.out)))).2.1
   have xu2 := (Ku.out.ext (ET Ew2.out (ET Ew3.out (ET Ew4.out HEL.out)))).2.2.1
   have xu3 := (Ku.out.ext (ET Ew2.out (ET Ew3.out (ET Ew4.out HEL.out)))).2.2.2.1
   have xu4 := (Ku.out.ext (ET Ew2.out (ET Ew3.out (ET Ew4.out HEL.out)))).2.2.2.2.1
   have xu5 := (Ku.out.ext (ET Ew2.out (ET Ew3.out (ET Ew4.out HEL.out)))).2.2.2.2.2.1
   have xu6 := (Ku.out.ext (ET Ew2.out (ET Ew3.out (ET Ew4.out HEL.out)))).2.2.2.2.2.2.1
   have xu7 := (Ku.out.ext (ET Ew2.out (ET Ew3.out (ET Ew4.out HEL.out)))).2.2.2.2.2.2.2.1
   have xu8 := (Ku.out.ext (ET Ew2.out (ET Ew3.out (ET Ew4.out HEL.out)))).2.2.2.2.2.2.2.2
   go_wp2_with fail
   clear zu xu0 xu1 xu2 xu3 xu4 xu5 xu6 xu7 xu8
   refine (best_any u A n c P k cp ps wr (HS.out.below (ET Ew1.out (ET Ew2.out (ET Ew3.out (ET Ew4.out HEL.out))))) hn (HPA.out.ext (ET Ew1.out (ET Ew2.out (ET Ew3.out (ET Ew4.out HEL.out))))) HKM.out).mono ?_
   intro e w5 hr
   obtain ⟨RX, dX, sx, Ax, nx, cx, tx, Bx, mx, dx, rfl, hQ, hE, hB, hK⟩ := hr.row
   have Qx := LH hQ
   have HBX := LH hB
   have HKX := LH hK
   clear hr hQ hB hK
   rw [HN.out, HXL.out] at HBX
   rw [HN.out] at HKX
   rw [HN.out, HCE.out]
   have Ew5 := LH hE
   clear hE
   obtain ⟨⟨xm0, xm1, xm2, xm3⟩, -, zm⟩ := (Km.out.ext (ET HEL.out Ew5.out))
   have zu := World.block_lt_of_cell? _ _ (Ku.out.ext (ET Ew2.out (ET Ew3.out (ET Ew4.out (ET HEL.out Ew5.out))))).1
   have xu0 := (Ku.out.ext (ET Ew2.out (ET Ew3.out (ET Ew4.out (ET HEL.out Ew5.out))))).1
   have xu1 := (Ku.out.ext (ET Ew2.out (ET Ew3.out (ET Ew4.out (ET HEL.out Ew5.out))))).2.1
   have xu2 := (Ku.out.ext (ET Ew2.out (ET Ew3.out (ET Ew4.out (ET HEL.out Ew5.out))))).2.2.1
   have xu3 := (Ku.out.ext (ET Ew2.out (ET Ew3.out (ET Ew4.out (ET HEL.out Ew5.out))))).2.2.2.1
   have xu4 := (Ku.out.ext (ET Ew2.out (ET Ew3.out (ET Ew4.out (ET HEL.out Ew5.out))))).2.2.2.2.1
   have xu5 := (Ku.out.ext (ET Ew2.out (ET Ew3.out (ET Ew4.out (ET HEL.out Ew5.out))))).2.2.2.2.2.1
   have xu6 := (Ku.out.ext (ET Ew2.out (ET Ew3.out (ET Ew4.out (ET HEL.out Ew5.out))))).2.2.2.2.2.2.1
   have xu7 := (Ku.out.ext (ET Ew2.out (ET Ew3.out (ET Ew4.out (ET HEL.out Ew5.out))))).2.2.2.2.2.2.2.1
   have xu8 := (Ku.out.ext (ET Ew2.out (ET Ew3.out (ET Ew4.out (ET HEL.out Ew5.out))))).2.2.2.2.2.2.2.2
   go_wp2_with fail
   clear xm0 xm1 xm2 xm3 zm zu xu0 xu1 xu2 xu3 xu4 xu5 xu6 xu7 xu8
   have kw6 := Cell4.new w5 _ rfl (.bool sx) (.slice Ax nx cx) (.bool tx) (.slice Bx mx dx) 29
   have hE : Ext w5 (w5.alloc (.cells #[.bool sx, .slice Ax nx cx, .bool tx, .slice Bx mx dx] 29)) := Ext.al Ext.rfl' _
   generalize w5.alloc (.cells #[.bool sx, .slice Ax nx cx, .bool tx, .slice Bx mx dx] 29) = w6 at *
   have Ew6 := LH hE
   clear hE
   have Kx := LH kw6
   clear kw6
   have hlx := (Qx.out.ext Ew6.out).len (sz_bestV HSZ.out)
   refine (ris_any sx Ax nx cx tx Bx mx dx _ sm Am nm cm tm Bm mm dm _ _ _ w6 (Qx.out.ext Ew6.out) (Qm.out.ext (ET Ew4.out (ET HEL.out (ET Ew5.out Ew6.out)))) (by omega) (by omega)).mono ?_
   rintro e w7 ⟨rfl, hE⟩
   rw [decide_eq_true rfl]
   have HLX := LH hlx
   clear hlx
   have Ew7 := LH hE
   clear hE
   go_wp2_with fail
   refine (same_any RX N dX XL RW N dW XL w7 (HBX.out.below (ET Ew6.out Ew7.out)) (HBW.out.below (ET Ew4.out (ET HEL.out (ET Ew5.out (ET Ew6.out Ew7.out))))) (by unfold maxLen; omega)).mono ?_
   rintro e w8 ⟨rfl, hE⟩
   rw [decide_eq_true rfl]
   have Ew8 := LH hE
   clear hE
   go_wp2_with fail
   have hsx : w4.heap.size ≤ wr.heap.size := HEL.out.size
   have HKA := LH (HKX.out.ext (ET Ew6.out (ET Ew7.out Ew8.out)))
   have HU := LH (((Qx.out.ext (ET Ew6.out (ET Ew7.out Ew8.out))).1.kat).base (Nat.le_refl _))
   have KC := LH (Kx.out.ext (ET Ew7.out Ew8.out))
   have HEB := LH (ET HEL.out (ET Ew5.out (ET Ew6.out (ET Ew7.out Ew8.out))))
   obtain ⟨gx, hgx⟩ : ∃ g, w5.heap.size = g := ⟨_, rfl⟩
   rw [hgx] at KC ⊢
   obtain ⟨B0, hB0⟩ : ∃ b, wr.heap.size = b := ⟨_, rfl⟩
   rw [hB0] at hsx HKA HU
   clear hgx hB0
   go_loopw [12] (fun j wr => ∃ l : Nat, l ≤ N ∧ j = .int .i64 l ∧ Hid (Turn isB B0 w8 wr)) (fun j _ => N - (intOf j).toNat)
   case atStart => exact ⟨0, by omega, rfl, Turn.refl _ _ _⟩
   case round =>
    obtain ⟨l, hl, rfl, HT⟩ := hrel
    by_cases hll : l < N
    ·have hbw : decide ((l : Int) < (N : Int)) = true := by simp; omega
     have hbw2 : decide (l < N) = true := by simp; omega
     obtain ⟨bb, oo, rfl, hbB, hcell⟩ := HKA.out (by omega)
     obtain ⟨⟨v, hv, hkv⟩, hf⟩ := hcell l hll
     obtain ⟨v', xv, b, rfl⟩ := HT.out.kind _ _ hv hkv
     have xf := (HT.out.frozen _).trans hf
     have HP : Hid (Turn isB B0 w8 (wr.setCell ⟨bb, oo + l, none⟩ (.bool (!b)))) := HT.out.put xv ⟨_, rfl⟩ hbB ⟨_, rfl⟩
     have hy0 : (0 : Int) ≤ (l : Int) := by omega
     have hyn : (l : Int) < (N : Int) := by omega
     clear hcell hv hkv hf
     go_wp2_with fail
     go_roundw
     case rel => exact ⟨l + 1, by omega, by go_num, HP.out⟩
     case measure => simp [intOf]; omega
    ·have hbw : decide ((l : Int) < (N : Int)) = false := by simp; omega
     have hbw2 : decide (l < N) = false := by simp; omega
     have HTF := LH HT.out
     have HU2 := LH (HU.out.turn HTF.out (fun v hv hb => by obtain ⟨x, rfl⟩ := hv; obtain ⟨y, hy⟩ := hb; cases hy))
     have HEB2 := LH (HTF.out.ext _ HEB.out hsx)
     have hsl := HTF.out.other ⟨gx, 1, none⟩ _ KC.out.1.2.1 (fun ⟨_, hb⟩ => by cases hb)
     have HSL := LH hsl
     have hlen := HLX.out.1
     clear HT hsl
     obtain ⟨w1, hw1⟩ : ∃ v, v = wr := ⟨_, rfl⟩
     rw [← hw1] at HU2 HEB2 HSL HTF ⊢
     clear hw1
     have xs0 := HSL.out
     go_wp2_with fail
     clear xs0
     go_loopw [13] (fun j wr => ∃ l : Nat, l ≤ nx ∧ j = .int .i64 l ∧ Hid (Turn isU B0 w1 wr)) (fun j _ => nx - (intOf j).toNat)
     case atStart => exact ⟨0, by omega, rfl, Turn.refl _ _ _⟩
     case round =>
      obtain ⟨l, hl, rfl, HT⟩ := hrel
      have xs := HT.out.other _ _ HSL.out (fun ⟨_, hb⟩ => by cases hb)
      by_cases hll : l < nx
      ·have hbw : decide ((l : Int) < (nx : Int)) = true := by simp; omega
       have hbw2 : decide (l < nx) = true := by simp; omega
       obtain ⟨bb, oo, rfl, hbB, hcell⟩ := HU2.out (by omega)
       obtain ⟨⟨v, hv, hkv⟩, hf⟩ := hcell l hll
       obtain ⟨v', xv, x, rfl⟩ := HT.out.kind _ _ hv hkv
       have xf := (HT.out.frozen _).trans hf
       have HP : Hid (Turn isU B0 w1 (wr.setCell ⟨bb, oo + l, none⟩ (.int .u32 7))) := HT.out.put xv ⟨_, rfl⟩ hbB ⟨_, rfl⟩
       have hy0 : (0 : Int) ≤ (l : Int) := by omega
       have hyn : (l : Int) < (nx : Int) := by omega
       clear hcell hv hkv hf
       go_wp2_with fail
       go_roundw
       case rel => exact ⟨l + 1, by omega, by go_num, HP.out⟩
       case measure => simp [intOf]; omega
      ·have hbw : decide ((l : Int) < (nx : Int)) = false := by simp; omega
       have hbw2 : decide (l < nx) = false := by simp; omega
       have HEF := LH (HT.out.ext _ HEB2.out hsx)
       go_wp2_with fail
       go_roundw
       case rel => exact ⟨q + 1, by omega, by go_num, HEF.out⟩
       case measure => simp [intOf]; omega
end Go.Proofs.YtjinpfnefeiooaaGreat
