/- The walk of the law PathHigherPrices. Printed by gen_phigh.py. -/
import Derived.Test.YtjinpfnefeiooaaPathR
import Derived.Test.YtjinpfnefeiooaaAbs
import Derived.Deep.Cut
namespace Go.Proofs.Ytjinpfnefeiooaa
open Go.RowKit

theorem Cell4.grown {w w' : World} {row : Option Nat} (hg : w.grownBy w' row) {r : Nat} {v0 v1 v2 v3 : Value} (h : Cell4 w r v0 v1 v2 v3) (hr : some r ≠ row) : Cell4 w' r v0 v1 v2 v3 := by
  have hb := hg.block r h.2.2 hr
  have e : ∀ i, w'.cell? ⟨r, i, none⟩ = w.cell? ⟨r, i, none⟩ := fun i => World.cell?_of_block (a := ⟨r, i, none⟩) hb
  have f : ∀ i, w'.frozen? ⟨r, i, none⟩ = w.frozen? ⟨r, i, none⟩ := fun i => World.frozen?_of_block (a := ⟨r, i, none⟩) hb
  exact ⟨⟨(e 0).trans h.1.1, (e 1).trans h.1.2.1, (e 2).trans h.1.2.2.1, (e 3).trans h.1.2.2.2⟩, ⟨(f 0).trans h.2.1.1, (f 1).trans h.2.1.2.1, (f 2).trans h.2.1.2.2.1, (f 3).trans h.2.1.2.2.2⟩, Nat.lt_of_lt_of_le h.2.2 hg.size⟩
/-- The raised prices. -/
def upAt (ps hs : List Rat) (q : Nat) : Rat := if q < hs.length then ps.getD q 0 + absQ (hs.getD q 0) else ps.getD q 0
def upTo (ps hs : List Rat) : Nat → List Rat
  | 0 => []
  | q + 1 => upTo ps hs q ++ [upAt ps hs q]
theorem upTo_len (ps hs : List Rat) : ∀ q, (upTo ps hs q).length = q
  | 0 => rfl
  | q + 1 => by simp [upTo, upTo_len ps hs q]
theorem upTo_get (ps hs : List Rat) : ∀ (q i : Nat), i < q → (upTo ps hs q).getD i 0 = upAt ps hs i
  | 0, i, h => by omega
  | q + 1, i, h => by
    by_cases he : i < q
    · rw [← upTo_get ps hs q i he]
      simp [upTo, List.getD, List.getElem?_append_left (show i < (upTo ps hs q).length by rw [upTo_len]; exact he)]
    · have : i = q := by omega
      subst this
      have hl := upTo_len ps hs i
      simp only [upTo, List.getD]
      rw [List.getElem?_append_right (by omega)]
      simp [hl]
theorem upAt_ge (ps hs : List Rat) (q : Nat) : ps.getD q 0 ≤ upAt ps hs q := by
  unfold upAt
  split
  · have := absQ_nonneg (hs.getD q 0)
    grind
  · exact Rat.le_refl
theorem hpE_mono {u : U} {p p' : Rat} (h : p ≤ p') : u.hpE p ≤ u.hpE p' := by
  unfold U.hpE
  split
  · exact hp_mono ‹_› h
  · exact Rat.le_refl
theorem bestV_mono {u : U} {ps ps' : List Rat} (hl : ps.length = ps'.length) (h : ∀ i, i < ps.length → ps.getD i 0 ≤ ps'.getD i 0) : u.bestV ps ≤ u.bestV ps' := by
  unfold U.bestV
  rw [← hl]
  split
  · obtain ⟨hok, _⟩ := pchk_zero.1 ‹_›
    exact dp_mono hok hl h (U.init_state (U.good hok))
  · exact Rat.le_refl
theorem sz_hpE {u : U} {K : Nat} {p : Rat} (h : Sz K p) : Sz (K + 8028) (u.hpE p) := by
  unfold U.hpE
  split
  · exact sz_hp ‹_› h
  · exact sz_zero.mono (by omega)
theorem QOwn.lt {w : World} {B0 : Nat} {v : Value} {n : Nat} {ps : List Rat} (h : QOwn w B0 v n ps) {g : Nat} (hg : v.ownBlock = some g) : g < w.heap.size ∧ B0 ≤ g := by
  obtain ⟨_, cs, h2, _⟩ := h
  exact own_lt h2 hg
set_option maxRecDepth 100000 in
set_option maxHeartbeats 16000000 in
theorem phigh_any (u : U) (A : Option Addr) (n c : Nat) (P : Option Addr) (k cp : Nat) (ps : List Rat) (ln : Nat → Nat × Nat) (P2 : Option Addr) (k2 cp2 : Nat) (ps2 : List Rat) (ln2 : Nat → Nat × Nat) (w : World) (hs : StepsAt w A n u.steps) (hn : n ≤ maxLen) (hp : QsRaw w P k ps ln) (hk : k ≤ maxLen) (hp2 : QsRaw w P2 k2 ps2 ln2) (hk2 : k2 ≤ maxLen) :
    Calls Try.prog 6 #[u.val A n c, .slice P k cp, .slice P2 k2 cp2] w fun e w' => e = .returned (.bool true) ∧ Ext w w' := by
  have HS := Lib.hid hs
  have HP := Lib.hid hp
  have HPL := Lib.hid hp.1
  clear hs hp
  have HKM := Lib.hid hk
  have HP2 := Lib.hid hp2
  have HPL2 := Lib.hid hp2.1
  clear hp2
  obtain ⟨i0, hi, hz0, hz1, hz2⟩ := info_parts info_q
  have HI0 := Lib.hid (And.intro hi (And.intro hz0 (And.intro hz1 hz2)))
  clear hi hz0 hz1 hz2
  have hk2' := hk2
  unfold maxLen at hk2'
  go_enter Try.func6, Try.ntmps6
  go_wp2_with fail
  have k0 := UBox.new (w) (w.heap.size) (by simp) u A n c 24
  have hE : Ext w ((w).alloc (.cells #[.int .i64 u.bus, .int .i64 u.mn, .slice A n c, .int .i64 u.up, .int .i64 u.down, .int .i64 u.start, .int .i64 u.idle, .int .i64 u.spin, .int .i64 u.on] 24)) := (Ext.al Ext.rfl' _)
  have hsz : ((w).alloc (.cells #[.int .i64 u.bus, .int .i64 u.mn, .slice A n c, .int .i64 u.up, .int .i64 u.down, .int .i64 u.start, .int .i64 u.idle, .int .i64 u.spin, .int .i64 u.on] 24)).heap.size = w.heap.size + 1 := by simp
  generalize (w).alloc (.cells #[.int .i64 u.bus, .int .i64 u.mn, .slice A n c, .int .i64 u.up, .int .i64 u.down, .int .i64 u.start, .int .i64 u.idle, .int .i64 u.spin, .int .i64 u.on] 24) = w1 at *
  have SZw1 := Lib.hid hsz
  clear hsz
  have Ew1 := Lib.hid hE
  clear hE
  have Ku := Lib.hid k0
  clear k0
  refine (long27_any u A n c P k cp ps ln none 0 0 w1 (HP.out.ext Ew1.out) hk).mono ?_
  rintro e w2 ⟨⟨bl, rfl, hbl⟩, hE⟩
  have Ew2 := Lib.hid hE
  clear hE
  have HLN := Lib.hid hbl
  clear hbl
  cases bl
  rotate_left
  · skip
    go_wp2_with fail
    refine (awake_any w2).mono ?_
    rintro e wz ⟨rfl, hEz⟩
    go_wp2_with fail
    go_ret
    exact ⟨rfl, Ext.trans (Ext.trans Ew1.out Ew2.out) hEz⟩
  obtain ⟨hn100, hm100, hk30, hl6⟩ := HLN.out rfl
  clear HLN
  have HPA := Lib.hid (HP.out.at hl6)
  have HS6 : Hid (∀ i, i < k → Sz 6 (ps.getD i 0)) := fun i hi => HP.out.sz6 hl6 hi
  have HSZ : Hid (∀ i, i < ps.length → Sz 1000 (ps.getD i 0)) := fun i hi => (HS6.out i (by rw [← HPL.out]; exact hi)).mono (by omega)
  clear hl6
  go_wp2_with fail
  refine (longG_any P2 k2 cp2 ps2 ln2 w2 (HP2.out.ext (Ext.trans Ew1.out Ew2.out)) hk2).mono ?_
  rintro e w3 ⟨⟨bl, rfl, hbl⟩, hE⟩
  have Ew3 := Lib.hid hE
  clear hE
  have HLN := Lib.hid hbl.1
  clear hbl
  cases bl
  rotate_left
  · skip
    go_wp2_with fail
    refine (awake_any w3).mono ?_
    rintro e wz ⟨rfl, hEz⟩
    go_wp2_with fail
    go_ret
    exact ⟨rfl, Ext.trans (Ext.trans Ew1.out (Ext.trans Ew2.out Ew3.out)) hEz⟩
  have HL2 := Lib.hid (HLN.out rfl)
  clear HLN
  have HPA2 := Lib.hid (HP2.out.at HL2.out)
  have HS62 : Hid (∀ i, i < k2 → Sz 6 (ps2.getD i 0)) := fun i hi => HP2.out.sz6 HL2.out hi
  by_cases h30 : 30 < k2
  · have hx1 : decide ((30 : Int) < (k2 : Int)) = true := by simp; omega
    have hx2 : decide (30 < k2) = true := by simp; omega
    go_wp2_with fail
    refine (awake_any w3).mono ?_
    rintro e wz ⟨rfl, hEz⟩
    go_wp2_with fail
    go_ret
    exact ⟨rfl, Ext.trans (Ext.trans Ew1.out (Ext.trans Ew2.out Ew3.out)) hEz⟩
  have hx1 : decide ((30 : Int) < (k2 : Int)) = false := by simp; omega
  have hx2 : decide (30 < k2) = false := by simp; omega
  go_wp2_with fail
  refine (awake_any w3).mono ?_
  rintro e w4 ⟨rfl, hE⟩
  have Ew4 := Lib.hid hE
  clear hE
  go_wp2_with fail
  clear hx1 hx2
  go_loopw [7, 8] (fun v i wr => ∃ q : Nat, q ≤ k ∧ i = .int .i64 q ∧ Hid (Ext w4 wr) ∧ Hid (QOwn wr w4.heap.size v q (upTo ps ps2 q))) (fun _ i _ => k - (intOf i).toNat)
  case atStart => exact ⟨0, by omega, rfl, Ext.rfl', QOwn.nil _ _⟩
  case round =>
    obtain ⟨q, hq, rfl, HEr, HO⟩ := hrel
    by_cases hlt : q < k
    rotate_left
    · have hkn : q = k := by omega
      subst hkn
      have hbv : decide ((q : Int) < (q : Int)) = false := by simp
      have hbv2 : decide (q < q) = false := by simp
      obtain ⟨PU, cU, hvU, hlU, hqU⟩ := HO.out.at
      have HQU := Lib.hid hqU
      have HUL := Lib.hid (upTo_len ps ps2 q)
      clear hqU
      subst hvU
      have zu := World.block_lt_of_cell? _ _ (Ku.out.ext (Ext.trans Ew2.out (Ext.trans Ew3.out (Ext.trans Ew4.out HEr.out)))).1
      have xu0 := (Ku.out.ext (Ext.trans Ew2.out (Ext.trans Ew3.out (Ext.trans Ew4.out HEr.out)))).1
      have xu1 := (Ku.out.ext (Ext.trans Ew2.out (Ext.trans Ew3.out (Ext.trans Ew4.out HEr.out)))).2.1
      have xu2 := (Ku.out.ext (Ext.trans Ew2.out (Ext.trans Ew3.out (Ext.trans Ew4.out HEr.out)))).2.2.1
      have xu3 := (Ku.out.ext (Ext.trans Ew2.out (Ext.trans Ew3.out (Ext.trans Ew4.out HEr.out)))).2.2.2.1
      have xu4 := (Ku.out.ext (Ext.trans Ew2.out (Ext.trans Ew3.out (Ext.trans Ew4.out HEr.out)))).2.2.2.2.1
      have xu5 := (Ku.out.ext (Ext.trans Ew2.out (Ext.trans Ew3.out (Ext.trans Ew4.out HEr.out)))).2.2.2.2.2.1
      have xu6 := (Ku.out.ext (Ext.trans Ew2.out (Ext.trans Ew3.out (Ext.trans Ew4.out HEr.out)))).2.2.2.2.2.2.1
      have xu7 := (Ku.out.ext (Ext.trans Ew2.out (Ext.trans Ew3.out (Ext.trans Ew4.out HEr.out)))).2.2.2.2.2.2.2.1
      have xu8 := (Ku.out.ext (Ext.trans Ew2.out (Ext.trans Ew3.out (Ext.trans Ew4.out HEr.out)))).2.2.2.2.2.2.2.2
      go_wp2_with fail
      clear zu xu0 xu1 xu2 xu3 xu4 xu5 xu6 xu7 xu8
      have HPC : Hid (u.pchk (upTo ps ps2 q).length = u.pchk ps.length) := by unfold Hid; rw [HUL.out, HPL.out]
      have HMO : Hid (u.bestV ps ≤ u.bestV (upTo ps ps2 q)) := bestV_mono (by rw [HUL.out, HPL.out]) (fun i hi => by rw [upTo_get ps ps2 q i (by rw [← HPL.out]; exact hi)]; exact upAt_ge ps ps2 i)
      have HSU : Hid (∀ i, i < (upTo ps ps2 q).length → Sz 1000 ((upTo ps ps2 q).getD i 0)) := fun i hi => HQU.out.sz hi
      refine (best_any u A n c P q cp ps wr (HS.out.below (Ext.trans Ew1.out (Ext.trans Ew2.out (Ext.trans Ew3.out (Ext.trans Ew4.out HEr.out))))) hn (HPA.out.ext (Ext.trans Ew1.out (Ext.trans Ew2.out (Ext.trans Ew3.out (Ext.trans Ew4.out HEr.out))))) HKM.out).mono ?_
      rintro e w5 ⟨vB1, sx, Ax, nx, cx, tx, Bx, mx, dx, rfl, hQ, hE, -, -⟩
      have Ew5 := Lib.hid hE
      clear hE
      have Qx := Lib.hid hQ
      clear hQ
      obtain ⟨ck, hck⟩ : ∃ v', u.pchk ps.length = v' := ⟨_, rfl⟩
      rw [hck] at HPC
      rw [hck]
      clear hck
      have zu := World.block_lt_of_cell? _ _ (Ku.out.ext (Ext.trans Ew2.out (Ext.trans Ew3.out (Ext.trans Ew4.out (Ext.trans HEr.out Ew5.out))))).1
      have xu0 := (Ku.out.ext (Ext.trans Ew2.out (Ext.trans Ew3.out (Ext.trans Ew4.out (Ext.trans HEr.out Ew5.out))))).1
      have xu1 := (Ku.out.ext (Ext.trans Ew2.out (Ext.trans Ew3.out (Ext.trans Ew4.out (Ext.trans HEr.out Ew5.out))))).2.1
      have xu2 := (Ku.out.ext (Ext.trans Ew2.out (Ext.trans Ew3.out (Ext.trans Ew4.out (Ext.trans HEr.out Ew5.out))))).2.2.1
      have xu3 := (Ku.out.ext (Ext.trans Ew2.out (Ext.trans Ew3.out (Ext.trans Ew4.out (Ext.trans HEr.out Ew5.out))))).2.2.2.1
      have xu4 := (Ku.out.ext (Ext.trans Ew2.out (Ext.trans Ew3.out (Ext.trans Ew4.out (Ext.trans HEr.out Ew5.out))))).2.2.2.2.1
      have xu5 := (Ku.out.ext (Ext.trans Ew2.out (Ext.trans Ew3.out (Ext.trans Ew4.out (Ext.trans HEr.out Ew5.out))))).2.2.2.2.2.1
      have xu6 := (Ku.out.ext (Ext.trans Ew2.out (Ext.trans Ew3.out (Ext.trans Ew4.out (Ext.trans HEr.out Ew5.out))))).2.2.2.2.2.2.1
      have xu7 := (Ku.out.ext (Ext.trans Ew2.out (Ext.trans Ew3.out (Ext.trans Ew4.out (Ext.trans HEr.out Ew5.out))))).2.2.2.2.2.2.2.1
      have xu8 := (Ku.out.ext (Ext.trans Ew2.out (Ext.trans Ew3.out (Ext.trans Ew4.out (Ext.trans HEr.out Ew5.out))))).2.2.2.2.2.2.2.2
      go_wp2_with fail
      clear zu xu0 xu1 xu2 xu3 xu4 xu5 xu6 xu7 xu8
      have kw6 := Cell4.new w5 _ rfl (.bool sx) (.slice Ax nx cx) (.bool tx) (.slice Bx mx dx) 34
      have hE : Ext w5 (w5.alloc (.cells #[.bool sx, .slice Ax nx cx, .bool tx, .slice Bx mx dx] 34)) := Ext.al Ext.rfl' _
      generalize w5.alloc (.cells #[.bool sx, .slice Ax nx cx, .bool tx, .slice Bx mx dx] 34) = w6 at *
      have Ew6 := Lib.hid hE
      clear hE
      have Kx := Lib.hid kw6
      clear kw6
      refine (best_any u A n c PU q cU (upTo ps ps2 q) w6 (HS.out.below (Ext.trans Ew1.out (Ext.trans Ew2.out (Ext.trans Ew3.out (Ext.trans Ew4.out (Ext.trans HEr.out (Ext.trans Ew5.out Ew6.out))))))) hn (HQU.out.ext (Ext.trans Ew5.out Ew6.out)) hlU).mono ?_
      rintro e w7 ⟨vB2, sy, Ay, ny, cy, ty, By, my, dy, rfl, hQ, hE, -, -⟩
      have Ew7 := Lib.hid hE
      clear hE
      have Qy := Lib.hid hQ
      clear hQ
      rw [HPC.out]
      have hcc : (ck == ck) = true := by simp
      obtain ⟨⟨xx0, xx1, xx2, xx3⟩, -, zx⟩ := (Kx.out.ext Ew7.out)
      go_wp2_with fail
      clear xx0 xx1 xx2 xx3 zx
      have kw8 := Cell4.new w7 _ rfl (.bool sy) (.slice Ay ny cy) (.bool ty) (.slice By my dy) 34
      have hE : Ext w7 (w7.alloc (.cells #[.bool sy, .slice Ay ny cy, .bool ty, .slice By my dy] 34)) := Ext.al Ext.rfl' _
      generalize w7.alloc (.cells #[.bool sy, .slice Ay ny cy, .bool ty, .slice By my dy] 34) = w8 at *
      have Ew8 := Lib.hid hE
      clear hE
      have Ky := Lib.hid kw8
      clear kw8
      refine (qcmp_any sx Ax nx cx tx Bx mx dx _ sy Ay ny cy ty By my dy _ w8 ((Qx.out.ext (Ext.trans Ew6.out (Ext.trans Ew7.out Ew8.out))).arg (sz_bestV HSZ.out) (by omega)) ((Qy.out.ext Ew8.out).arg (sz_bestV HSU.out) (by omega))).mono ?_
      rintro e w9 ⟨rfl, hE⟩
      have Ew9 := Lib.hid hE
      clear hE
      obtain ⟨cm, hcm⟩ : ∃ x, cmpQ ((u.bestV ps)) ((u.bestV (upTo ps ps2 q))) = x := ⟨_, rfl⟩
      rw [hcm]
      have Hcm := Lib.hid hcm
      clear hcm
      have hcm : decide (cm ≤ 0) = true := by
        have : ¬ 0 < cm := by rw [← Hcm.out]; exact fun e => Rat.not_lt.2 HMO.out ((cmpQ_pos _ _).1 e)
        simp; omega
      go_wp2_with fail
      go_ret
      exact ⟨rfl, (Ext.trans Ew1.out (Ext.trans Ew2.out (Ext.trans Ew3.out (Ext.trans Ew4.out (Ext.trans HEr.out (Ext.trans Ew5.out (Ext.trans Ew6.out (Ext.trans Ew7.out (Ext.trans Ew8.out Ew9.out)))))))))⟩
    have hbv : decide ((q : Int) < (k : Int)) = true := by simp; omega
    have hbv2 : decide (q < k) = true := by simp; omega
    have hz0 : (0 : Int) ≤ (q : Int) := by omega
    have hzn : (q : Int) < (k : Int) := by omega
    obtain ⟨bP, oP, hP, hbP, hcP⟩ := HPA.out.2 (by omega)
    subst hP
    obtain ⟨se, Ae, ne, ce, te, Be, me, de, p0, p1, p2, p3, hpi, lp1, lp2⟩ := hcP q hlt
    have HP4 := Lib.hid (And.intro p0 (And.intro p1 (And.intro p2 p3)))
    have He := Lib.hid hpi
    have HSE := Lib.hid (HS6.out q hlt)
    clear hcP p0 p1 p2 p3 hpi hbP
    have HUA : Hid (upTo ps ps2 (q + 1) = upTo ps ps2 q ++ [upAt ps ps2 q]) := rfl
    have HUG := Lib.hid (upAt_ge ps ps2 q)
    have HUD : Hid (upAt ps ps2 q = if q < ps2.length then ps.getD q 0 + absQ (ps2.getD q 0) else ps.getD q 0) := rfl
    obtain ⟨pk, hpk⟩ : ∃ v, ps.getD q 0 = v := ⟨_, rfl⟩
    rw [hpk] at HUG HUD He HSE
    clear hpk
    have xp0 := Ext.cellOf (Ext.trans Ew1.out (Ext.trans Ew2.out (Ext.trans Ew3.out (Ext.trans Ew4.out HEr.out)))) HP4.out.1
    have xp1 := Ext.cellOf (Ext.trans Ew1.out (Ext.trans Ew2.out (Ext.trans Ew3.out (Ext.trans Ew4.out HEr.out)))) HP4.out.2.1
    have xp2 := Ext.cellOf (Ext.trans Ew1.out (Ext.trans Ew2.out (Ext.trans Ew3.out (Ext.trans Ew4.out HEr.out)))) HP4.out.2.2.1
    have xp3 := Ext.cellOf (Ext.trans Ew1.out (Ext.trans Ew2.out (Ext.trans Ew3.out (Ext.trans Ew4.out HEr.out)))) HP4.out.2.2.2
    have zp := World.block_lt_of_cell? _ _ xp0
    by_cases hh : q < k2
    rotate_left
    · have hb1 : decide ((q : Int) < (k2 : Int)) = false := by simp; omega
      have hb2 : decide (q < k2) = false := by simp; omega
      have HUV : Hid (upAt ps ps2 q = pk) := by unfold Hid; rw [HUD.out, if_neg (by rw [HPL2.out]; exact hh)]
      have HUX : Hid (pk ≤ pk) := Rat.le_refl
      go_upto_region 8 with (fail)
      clear xp0 xp1 xp2 xp3 zp
      have kw10 := Cell4.new wr _ rfl (.bool se) (.slice Ae ne ce) (.bool te) (.slice Be me de) 34
      have hE : Ext wr (wr.alloc (.cells #[.bool se, .slice Ae ne ce, .bool te, .slice Be me de] 34)) := Ext.al Ext.rfl' _
      generalize wr.alloc (.cells #[.bool se, .slice Ae ne ce, .bool te, .slice Be me de] 34) = w10 at *
      have Ew10 := Lib.hid hE
      clear hE
      have Kx := Lib.hid kw10
      clear kw10
      have hEa : Ext w10 (w10.alloc (.cells #[.bool se, .slice Ae ne ce, .bool te, .slice Be me de] 34)) := Ext.al Ext.rfl' _
      have HE2 := Lib.hid (Ext.trans (Ext.trans HEr.out Ew10.out) hEa)
      have HO2 := Lib.hid ((HO.out.ext Ew10.out).ext hEa)
      have HQI := Lib.hid ((He.out.ext (Ext.trans Ew1.out (Ext.trans Ew2.out (Ext.trans Ew3.out (Ext.trans Ew4.out (Ext.trans HEr.out Ew10.out)))))).ext hEa)
      have KX := Lib.hid (Kx.out.ext hEa)
      have hcase := He.out.away (w4.heap.size)
      have HAW : Hid (AwayO u7.ownBlock Ae ne ∧ AwayO u7.ownBlock Be me) := by
        have h3 := (Nat.le_trans Ew1.out.size (Nat.le_trans Ew2.out.size (Nat.le_trans Ew3.out.size Ew4.out.size)))
        have h4 := He.out.away
        refine ⟨fun g hg hn ad ha => ?_, fun g hg hn ad ha => ?_⟩
        · have h1 := (HO.out.lt hg).2
          have h2 := (h4 (g + 1)).1 hn ad ha
          omega
        · have h1 := (HO.out.lt hg).2
          have h2 := (h4 (g + 1)).2 hn ad ha
          omega
      clear hcase
      have HLN : Hid (ne ≤ 1000 ∧ me ≤ 1000) := ⟨lp1, lp2⟩
      have HNW := Lib.hid (World.news_of_block (cs := #[.bool se, .slice Ae ne ce, .bool te, .slice Be me de]) (t := 34) (fr := (0, 0)) (heap_alloc_new w10 (.cells #[.bool se, .slice Ae ne ce, .bool te, .slice Be me de] 34)))
      have hw1s : w4.heap.size ≤ (w10.alloc (.cells #[.bool se, .slice Ae ne ce, .bool te, .slice Be me de] 34)).heap.size := HE2.out.size
      obtain ⟨hpl, cs, hown0, hrows⟩ := HO2.out
      have HOW := Lib.hid hown0
      have HRS := Lib.hid hrows
      have HPLx := Lib.hid hpl
      clear hpl hown0 hrows HO2 hEa
      obtain ⟨⟨xx0, xx1, xx2, xx3⟩, -, zx⟩ := Kx.out
      have hgx : wr.heap.size ≤ wr.heap.size := (Nat.le_refl _)
      go_wp2_with (
        at_builtin
        refine wpList_append_atW _ rfl (.tmp 60) (.tmp 62) 25 rfl (w4.heap.size) 34 i0 _ 4 64 Try.underlying25 HI0.out.1 HI0.out.2.1 HI0.out.2.2.1 HI0.out.2.2.2 rfl (by omega) u7 q _ rfl HOW.out ⟨w10.heap.size, 0, none⟩ 1 1 [.bool se, .slice Ae ne ce, .bool te, .slice Be me de] rfl rfl HNW.out (by simp [Value.oneCell']) (.inr (by omega)) (by simp [maxLen]; omega) (by omega) hw1s ?_
        intro g cap w11 hown hgr hgg
        have HN := Lib.hid (QOwn.push HPLx.out HOW.out HRS.out HQI.out ⟨by have := HLN.out; omega, by have := HLN.out; omega⟩ HAW.out hown hgr hgg)
        have EG := Lib.hid (ext_grownW HE2.out hgr (fun g hg => (own_lt HOW.out hg).2))
        have KG := Lib.hid (KX.out.grown hgr (by intro he; have := (HO.out.lt he.symm).1; have := hgx; omega))
        have HQG := Lib.hid (HQI.out.grown hgr HAW.out)
        have HSZG := Lib.hid hgr.size
        clear hown hgr hgg)
      clear xx0 xx1 xx2 xx3 zx hgx hw1s HQI KX HNW
      refine wp_region_havS [10] [0, 1, 2, 3, 4, 5, 6, 7, 8, 9] [11, 12, 13] (fun _ => .cells #[.bool false, .slice none 0 0, .bool false, .slice none 0 0] 34) (by kernel_rfl) (by kernel_rfl) ?_ ?_
      · intro f hf
        simp only [List.mem_cons, List.not_mem_nil, or_false] at hf
        rcases hf with rfl
        all_goals exact makes_q (by rfl) rfl
      have hE : Ext w11 w11.drew := Ext.rfl'.drew
      generalize w11.drew = w12 at *
      have Ew12 := Lib.hid hE
      clear hE
      have fu0 := fun z : ExtX w12 [] => z.cell (p := ⟨w.heap.size, 0, none⟩) (Ku.out.ext (Ext.trans Ew2.out (Ext.trans Ew3.out (Ext.trans Ew4.out (Ext.trans EG.out Ew12.out))))).1 (by simp)
      have fu1 := fun z : ExtX w12 [] => z.cell (p := ⟨w.heap.size, 1, none⟩) (Ku.out.ext (Ext.trans Ew2.out (Ext.trans Ew3.out (Ext.trans Ew4.out (Ext.trans EG.out Ew12.out))))).2.1 (by simp)
      have fu2 := fun z : ExtX w12 [] => z.cell (p := ⟨w.heap.size, 2, none⟩) (Ku.out.ext (Ext.trans Ew2.out (Ext.trans Ew3.out (Ext.trans Ew4.out (Ext.trans EG.out Ew12.out))))).2.2.1 (by simp)
      have fu3 := fun z : ExtX w12 [] => z.cell (p := ⟨w.heap.size, 3, none⟩) (Ku.out.ext (Ext.trans Ew2.out (Ext.trans Ew3.out (Ext.trans Ew4.out (Ext.trans EG.out Ew12.out))))).2.2.2.1 (by simp)
      have fu4 := fun z : ExtX w12 [] => z.cell (p := ⟨w.heap.size, 4, none⟩) (Ku.out.ext (Ext.trans Ew2.out (Ext.trans Ew3.out (Ext.trans Ew4.out (Ext.trans EG.out Ew12.out))))).2.2.2.2.1 (by simp)
      have fu5 := fun z : ExtX w12 [] => z.cell (p := ⟨w.heap.size, 5, none⟩) (Ku.out.ext (Ext.trans Ew2.out (Ext.trans Ew3.out (Ext.trans Ew4.out (Ext.trans EG.out Ew12.out))))).2.2.2.2.2.1 (by simp)
      have fu6 := fun z : ExtX w12 [] => z.cell (p := ⟨w.heap.size, 6, none⟩) (Ku.out.ext (Ext.trans Ew2.out (Ext.trans Ew3.out (Ext.trans Ew4.out (Ext.trans EG.out Ew12.out))))).2.2.2.2.2.2.1 (by simp)
      have fu7 := fun z : ExtX w12 [] => z.cell (p := ⟨w.heap.size, 7, none⟩) (Ku.out.ext (Ext.trans Ew2.out (Ext.trans Ew3.out (Ext.trans Ew4.out (Ext.trans EG.out Ew12.out))))).2.2.2.2.2.2.2.1 (by simp)
      have fu8 := fun z : ExtX w12 [] => z.cell (p := ⟨w.heap.size, 8, none⟩) (Ku.out.ext (Ext.trans Ew2.out (Ext.trans Ew3.out (Ext.trans Ew4.out (Ext.trans EG.out Ew12.out))))).2.2.2.2.2.2.2.2 (by simp)
      have fp0 := fun z : ExtX w12 [] => z.cell (p := ⟨bP, oP + q * 4, none⟩) (Ext.cellOf (Ext.trans Ew1.out (Ext.trans Ew2.out (Ext.trans Ew3.out (Ext.trans Ew4.out (Ext.trans EG.out Ew12.out))))) HP4.out.1) (by simp)
      have fp1 := fun z : ExtX w12 [] => z.cell (p := ⟨bP, oP + q * 4 + 1, none⟩) (Ext.cellOf (Ext.trans Ew1.out (Ext.trans Ew2.out (Ext.trans Ew3.out (Ext.trans Ew4.out (Ext.trans EG.out Ew12.out))))) HP4.out.2.1) (by simp)
      have fp2 := fun z : ExtX w12 [] => z.cell (p := ⟨bP, oP + q * 4 + 2, none⟩) (Ext.cellOf (Ext.trans Ew1.out (Ext.trans Ew2.out (Ext.trans Ew3.out (Ext.trans Ew4.out (Ext.trans EG.out Ew12.out))))) HP4.out.2.2.1) (by simp)
      have fp3 := fun z : ExtX w12 [] => z.cell (p := ⟨bP, oP + q * 4 + 3, none⟩) (Ext.cellOf (Ext.trans Ew1.out (Ext.trans Ew2.out (Ext.trans Ew3.out (Ext.trans Ew4.out (Ext.trans EG.out Ew12.out))))) HP4.out.2.2.2) (by simp)
      intro w13 hE
      have Ew13 := Lib.hid hE
      clear hE
      repeat (refine havAt_still (by rfl) (by rfl) ?_; go_big_quiet_step (fail); refine wpQuiet_nil ?_)
      refine havAt_move (by rfl) (by rfl) (by kernel_rfl) ?_
      go_wp2_with fail
      refine (hour_any u A n c se Ae ne ce te Be me de pk w13 (HS.out.below (Ext.trans Ew1.out (Ext.trans Ew2.out (Ext.trans Ew3.out (Ext.trans Ew4.out (Ext.trans EG.out (Ext.trans Ew12.out Ew13.out))))))) hn (He.out.ext (Ext.trans Ew1.out (Ext.trans Ew2.out (Ext.trans Ew3.out (Ext.trans Ew4.out (Ext.trans EG.out (Ext.trans Ew12.out Ew13.out))))))) lp1 lp2).mono ?_
      rintro e w14 ⟨sa, Aa, na, ca, ta, Ba, ma, da, rfl, hQ, hE⟩
      have Ew14 := Lib.hid hE
      clear hE
      have Qa := Lib.hid hQ
      clear hQ
      go_wp2_with fail
      refine And.intro Ew14.out (fun w15 hE => ?_)
      have Ew15 := Lib.hid hE
      clear hE
      repeat (refine havAt_still (by rfl) (by rfl) ?_; go_big_quiet_step (fail); refine wpQuiet_nil ?_)
      refine havAt_end ?_
      intro gs hgs hne
      have hpa := hgs 10 (by simp)
      change IdxAt _ _ _ _ _ _ (Act.put _ (some 11) (.pointer (some ⟨gs 10, 0, none⟩))) _
      generalize gs 10 = ga at *
      clear hgs hne
      simp only [Act.put, List.setIfInBounds_toArray, List.set_cons_succ, List.set_cons_zero]
      have Pa := Lib.hid hpa
      have Ka := Lib.hid (Cell4.of_blk hpa.2.1)
      clear hpa
      repeat (refine idxAt_still (by rfl) (by rfl) ?_; go_big_quiet_step (fail); refine wpQuiet_nil ?_)
      obtain ⟨⟨o0, o1, o2, o3⟩, ⟨q0, q1, q2, q3⟩, ol⟩ := Ka.out
      refine idxAt_move (by rfl) (by rfl) (by kernel_rfl) ?_
      go_wp2_with fail
      refine And.intro (inX_put (p := ⟨ga, 3, none⟩) (inX_put (p := ⟨ga, 2, none⟩) (inX_put (p := ⟨ga, 1, none⟩) (inX_put (p := ⟨ga, 0, none⟩) (inX_of_ext _ (Ext.trans Ew13.out (Ext.trans Ew14.out Ew15.out))) (.inr Pa.out.1) _) (.inr Pa.out.1) _) (.inr Pa.out.1) _) (.inr Pa.out.1) _) ?_
      clear o0 o1 o2 o3 q0 q1 q2 q3 ol
      have Ka_1 := Lib.hid (Ka.out.put4 (.bool sa) (.slice Aa na ca) (.bool ta) (.slice Ba ma da))
      have NJ1 := Lib.hid (ext_put4 (Ext.trans Ew13.out (Ext.trans Ew14.out Ew15.out)) (g := ga) Pa.out.1 0 (.bool sa) (.slice Aa na ca) (.bool ta) (.slice Ba ma da))
      have NZ1 : Hid (w15.heap.size ≤ (put4 w15 (ga) 0 (.bool sa) (.slice Aa na ca) (.bool ta) (.slice Ba ma da)).heap.size) := by unfold Hid; rw [put4_size]; exact Nat.le_refl _
      have Qa_1 := Lib.hid ((Qa.out.ext Ew15.out).put4A (g := ga) (Qa.out.span (Pa.out.2.2 (w13.heap.size, w14.heap.size) (by simp))) 0 (.bool sa) (.slice Aa na ca) (.bool ta) (.slice Ba ma da))
      unfold put4 at Ka_1 NJ1 NZ1 Qa_1
      simp only [Nat.zero_add] at Ka_1 NJ1 NZ1 Qa_1
      generalize ((((w15.setCell ⟨ga, 0, none⟩ (.bool sa)).setCell ⟨ga, 1, none⟩ (.slice Aa na ca)).setCell ⟨ga, 2, none⟩ (.bool ta)).setCell ⟨ga, 3, none⟩ (.slice Ba ma da)) = w16 at *
      repeat (refine idxAt_still (by rfl) (by rfl) ?_; go_big_quiet_step (fail); refine wpQuiet_nil ?_)
      refine idxAt_nil ?_
      clear fu0 fu1 fu2 fu3 fu4 fu5 fu6 fu7 fu8 fp0 fp1 fp2 fp3
      obtain ⟨ck, hck⟩ : ∃ v', u.check 6 = v' := ⟨_, rfl⟩
      rw [hck]
      have HCK := Lib.hid hck
      clear hck
      have hcn : (ck != ck) = false := by simp
      have zu := World.block_lt_of_cell? _ _ (Ku.out.ext (Ext.trans Ew2.out (Ext.trans Ew3.out (Ext.trans Ew4.out (Ext.trans EG.out (Ext.trans Ew12.out NJ1.out)))))).1
      have xu0 := (Ku.out.ext (Ext.trans Ew2.out (Ext.trans Ew3.out (Ext.trans Ew4.out (Ext.trans EG.out (Ext.trans Ew12.out NJ1.out)))))).1
      have xu1 := (Ku.out.ext (Ext.trans Ew2.out (Ext.trans Ew3.out (Ext.trans Ew4.out (Ext.trans EG.out (Ext.trans Ew12.out NJ1.out)))))).2.1
      have xu2 := (Ku.out.ext (Ext.trans Ew2.out (Ext.trans Ew3.out (Ext.trans Ew4.out (Ext.trans EG.out (Ext.trans Ew12.out NJ1.out)))))).2.2.1
      have xu3 := (Ku.out.ext (Ext.trans Ew2.out (Ext.trans Ew3.out (Ext.trans Ew4.out (Ext.trans EG.out (Ext.trans Ew12.out NJ1.out)))))).2.2.2.1
      have xu4 := (Ku.out.ext (Ext.trans Ew2.out (Ext.trans Ew3.out (Ext.trans Ew4.out (Ext.trans EG.out (Ext.trans Ew12.out NJ1.out)))))).2.2.2.2.1
      have xu5 := (Ku.out.ext (Ext.trans Ew2.out (Ext.trans Ew3.out (Ext.trans Ew4.out (Ext.trans EG.out (Ext.trans Ew12.out NJ1.out)))))).2.2.2.2.2.1
      have xu6 := (Ku.out.ext (Ext.trans Ew2.out (Ext.trans Ew3.out (Ext.trans Ew4.out (Ext.trans EG.out (Ext.trans Ew12.out NJ1.out)))))).2.2.2.2.2.2.1
      have xu7 := (Ku.out.ext (Ext.trans Ew2.out (Ext.trans Ew3.out (Ext.trans Ew4.out (Ext.trans EG.out (Ext.trans Ew12.out NJ1.out)))))).2.2.2.2.2.2.2.1
      have xu8 := (Ku.out.ext (Ext.trans Ew2.out (Ext.trans Ew3.out (Ext.trans Ew4.out (Ext.trans EG.out (Ext.trans Ew12.out NJ1.out)))))).2.2.2.2.2.2.2.2
      obtain ⟨⟨xx0, xx1, xx2, xx3⟩, -, zx⟩ := (KG.out.ext (Ext.trans Ew12.out NJ1.out))
      go_wp2_with fail
      clear zu xu0 xu1 xu2 xu3 xu4 xu5 xu6 xu7 xu8 xx0 xx1 xx2 xx3 zx
      refine (hour_any u A n c se Ae ne ce te Be me de pk w16 (HS.out.below (Ext.trans Ew1.out (Ext.trans Ew2.out (Ext.trans Ew3.out (Ext.trans Ew4.out (Ext.trans EG.out (Ext.trans Ew12.out NJ1.out))))))) hn (HQG.out.ext (Ext.trans Ew12.out NJ1.out)) lp1 lp2).mono ?_
      rintro e w17 ⟨sb, Ab, nb, cb, tb, Bb, mb, db, rfl, hQ, hE⟩
      have Ew17 := Lib.hid hE
      clear hE
      have Qb := Lib.hid hQ
      clear hQ
      rw [HCK.out]
      obtain ⟨⟨xa0, xa1, xa2, xa3⟩, -, za⟩ := (Ka_1.out.ext Ew17.out)
      go_wp2_with fail
      clear xa0 xa1 xa2 xa3 za
      have kw18 := Cell4.new w17 _ rfl (.bool sb) (.slice Ab nb cb) (.bool tb) (.slice Bb mb db) 34
      have hE : Ext w17 (w17.alloc (.cells #[.bool sb, .slice Ab nb cb, .bool tb, .slice Bb mb db] 34)) := Ext.al Ext.rfl' _
      generalize w17.alloc (.cells #[.bool sb, .slice Ab nb cb, .bool tb, .slice Bb mb db] 34) = w18 at *
      have Ew18 := Lib.hid hE
      clear hE
      have Kb := Lib.hid kw18
      clear kw18
      refine (qcmp_any sa Aa na ca ta Ba ma da _ sb Ab nb cb tb Bb mb db _ w18 ((Qa_1.out.ext (Ext.trans Ew17.out Ew18.out)).arg (sz_hpE HSE.out) (by omega)) ((Qb.out.ext Ew18.out).arg (sz_hpE HSE.out) (by omega))).mono ?_
      rintro e w19 ⟨rfl, hE⟩
      have Ew19 := Lib.hid hE
      clear hE
      obtain ⟨cm, hcm⟩ : ∃ x, cmpQ ((u.hpE pk)) ((u.hpE pk)) = x := ⟨_, rfl⟩
      rw [hcm]
      have Hcm := Lib.hid hcm
      clear hcm
      have hcm : decide (0 < cm) = false := by
        have : ¬ 0 < cm := by rw [← Hcm.out]; exact fun e => Rat.not_lt.2 (hpE_mono (u := u) HUX.out) ((cmpQ_pos _ _).1 e)
        simp; omega
      go_wp2_with fail
      go_roundw
      case rel => exact ⟨q + 1, by omega, by go_num, (Ext.trans EG.out (Ext.trans Ew12.out (Ext.trans NJ1.out (Ext.trans Ew17.out (Ext.trans Ew18.out Ew19.out))))), by rw [HUA.out, HUV.out]; exact (HN.out.ext (Ext.trans Ew12.out (Ext.trans NJ1.out (Ext.trans Ew17.out (Ext.trans Ew18.out Ew19.out)))))⟩
      case measure => simp [intOf]; omega
    have hb1 : decide ((q : Int) < (k2 : Int)) = true := by simp; omega
    have hb2 : decide (q < k2) = true := by simp; omega
    have hzm : (q : Int) < (k2 : Int) := by omega
    obtain ⟨bH, oH, hH, hbH, hcH⟩ := HPA2.out.2 (by omega)
    subst hH
    obtain ⟨sf, Af, nf, cf, tf, Bf, mf, df, p0, p1, p2, p3, hpi, lf1, lf2⟩ := hcH q hh
    have HH4 := Lib.hid (And.intro p0 (And.intro p1 (And.intro p2 p3)))
    have Hf := Lib.hid hpi
    have HSF := Lib.hid (HS62.out q hh)
    clear hcH p0 p1 p2 p3 hpi hbH
    obtain ⟨hq2, hhq2⟩ : ∃ v, ps2.getD q 0 = v := ⟨_, rfl⟩
    rw [hhq2] at HUD Hf HSF
    clear hhq2
    have HUV : Hid (upAt ps ps2 q = pk + absQ hq2) := by unfold Hid; rw [HUD.out, if_pos (by rw [HPL2.out]; exact hh)]
    have HUX : Hid (pk ≤ pk + absQ hq2) := by unfold Hid; rw [← HUV.out]; exact HUG.out
    go_wp2_with fail
    clear xp0 xp1 xp2 xp3 zp
    have kw20 := Cell4.new wr _ rfl (.bool se) (.slice Ae ne ce) (.bool te) (.slice Be me de) 34
    have hE : Ext wr (wr.alloc (.cells #[.bool se, .slice Ae ne ce, .bool te, .slice Be me de] 34)) := Ext.al Ext.rfl' _
    generalize wr.alloc (.cells #[.bool se, .slice Ae ne ce, .bool te, .slice Be me de] 34) = w20 at *
    have Ew20 := Lib.hid hE
    clear hE
    have Kx := Lib.hid kw20
    clear kw20
    refine wp_region_lexS (C := InX w20.drew []) (by kernel_rfl) (by kernel_rfl) (inX_self _ _) ?_
    have hE : Ext w20 w20.drew := Ext.rfl'.drew
    generalize w20.drew = w21 at *
    have Ew21 := Lib.hid hE
    clear hE
    have fx0 := fun z : ExtX w21 [] => z.cell (p := ⟨wr.heap.size, 0, none⟩) (Kx.out.ext Ew21.out).1.1 (by simp)
    have fx1 := fun z : ExtX w21 [] => z.cell (p := ⟨wr.heap.size, 1, none⟩) (Kx.out.ext Ew21.out).1.2.1 (by simp)
    have fx2 := fun z : ExtX w21 [] => z.cell (p := ⟨wr.heap.size, 2, none⟩) (Kx.out.ext Ew21.out).1.2.2.1 (by simp)
    have fx3 := fun z : ExtX w21 [] => z.cell (p := ⟨wr.heap.size, 3, none⟩) (Kx.out.ext Ew21.out).1.2.2.2 (by simp)
    have fh0 := fun z : ExtX w21 [] => z.cell (p := ⟨bH, oH + q * 4, none⟩) (Ext.cellOf (Ext.trans Ew1.out (Ext.trans Ew2.out (Ext.trans Ew3.out (Ext.trans Ew4.out (Ext.trans HEr.out (Ext.trans Ew20.out Ew21.out)))))) HH4.out.1) (by simp)
    have fh1 := fun z : ExtX w21 [] => z.cell (p := ⟨bH, oH + q * 4 + 1, none⟩) (Ext.cellOf (Ext.trans Ew1.out (Ext.trans Ew2.out (Ext.trans Ew3.out (Ext.trans Ew4.out (Ext.trans HEr.out (Ext.trans Ew20.out Ew21.out)))))) HH4.out.2.1) (by simp)
    have fh2 := fun z : ExtX w21 [] => z.cell (p := ⟨bH, oH + q * 4 + 2, none⟩) (Ext.cellOf (Ext.trans Ew1.out (Ext.trans Ew2.out (Ext.trans Ew3.out (Ext.trans Ew4.out (Ext.trans HEr.out (Ext.trans Ew20.out Ew21.out)))))) HH4.out.2.2.1) (by simp)
    have fh3 := fun z : ExtX w21 [] => z.cell (p := ⟨bH, oH + q * 4 + 3, none⟩) (Ext.cellOf (Ext.trans Ew1.out (Ext.trans Ew2.out (Ext.trans Ew3.out (Ext.trans Ew4.out (Ext.trans HEr.out (Ext.trans Ew20.out Ew21.out)))))) HH4.out.2.2.2) (by simp)
    repeat (refine lexAt_still (by rfl) ?_; go_big_quiet_step (fail); refine wpQuiet_nil ?_)
    refine lexAt_move (by rfl) (by kernel_rfl) ?_
    go_wp2_with fail
    refine (qabs_any sf Af nf cf tf Bf mf df _ w21 ⟨(Hf.out.ext (Ext.trans Ew1.out (Ext.trans Ew2.out (Ext.trans Ew3.out (Ext.trans Ew4.out (Ext.trans HEr.out (Ext.trans Ew20.out Ew21.out))))))), by omega, by omega⟩).mono ?_
    rintro e w22 ⟨ss, As, ns, cs, ts, Bs, ms, ds, rfl, hQ, hE⟩
    have Ew22 := Lib.hid hE
    clear hE
    have Qs := Lib.hid hQ
    clear hQ
    go_wp2_with fail
    refine And.intro (inX_of_ext _ Ew22.out) ?_
    repeat (refine lexAt_still (by rfl) ?_; go_big_quiet_step (fail); refine wpQuiet_nil ?_)
    refine lexAt_move (by rfl) (by kernel_rfl) ?_
    go_wp2_with fail
    refine (qadd_any se Ae ne ce te Be me de _ ss As ns cs ts Bs ms ds _ w22 ⟨(He.out.ext (Ext.trans Ew1.out (Ext.trans Ew2.out (Ext.trans Ew3.out (Ext.trans Ew4.out (Ext.trans HEr.out (Ext.trans Ew20.out (Ext.trans Ew21.out Ew22.out)))))))), by omega, by omega⟩ (Qs.out.arg (sz_abs HSF.out) (by omega))).mono ?_
    rintro e w23 ⟨sz, Az, nz, cz, tz, Bz, mz, dz, rfl, hQ, hE⟩
    have Ew23 := Lib.hid hE
    clear hE
    have Qz := Lib.hid hQ
    clear hQ
    have HXe := Lib.hid (inX_of_ext [] (Ext.trans Ew22.out Ew23.out))
    clear fx0 fx1 fx2 fx3 fh0 fh1 fh2 fh3
    obtain ⟨⟨o0, o1, o2, o3⟩, ⟨q0, q1, q2, q3⟩, ol⟩ := (Kx.out.ext (Ext.trans Ew21.out (Ext.trans Ew22.out Ew23.out)))
    go_wp2_with fail
    refine And.intro HXe.out ?_
    refine lexAt_last (by rfl) (by kernel_rfl) (by kernel_rfl) ?_
    go_wp2_with fail
    refine And.intro trivial (lexAt_nil ?_)
    clear o0 o1 o2 o3 q0 q1 q2 q3 ol HXe
    have Kx_2 := Lib.hid ((Kx.out.ext (Ext.trans Ew21.out (Ext.trans Ew22.out Ew23.out))).put4 (.bool sz) (.slice Az nz cz) (.bool tz) (.slice Bz mz dz))
    have NJ2 := Lib.hid (ext_put4 (Ext.trans Ew20.out (Ext.trans Ew21.out (Ext.trans Ew22.out Ew23.out))) (g := wr.heap.size) (Nat.le_refl _) 0 (.bool sz) (.slice Az nz cz) (.bool tz) (.slice Bz mz dz))
    have NZ2 : Hid (w23.heap.size ≤ (put4 w23 (wr.heap.size) 0 (.bool sz) (.slice Az nz cz) (.bool tz) (.slice Bz mz dz)).heap.size) := by unfold Hid; rw [put4_size]; exact Nat.le_refl _
    have Qz_2 := Lib.hid (Qz.out.put4A (g := wr.heap.size) (Qz.out.span (.inl (Nat.lt_of_lt_of_le Kx.out.2.2 (Nat.le_trans Ew21.out.size Ew22.out.size)))) 0 (.bool sz) (.slice Az nz cz) (.bool tz) (.slice Bz mz dz))
    unfold put4 at Kx_2 NJ2 NZ2 Qz_2
    simp only [Nat.zero_add] at Kx_2 NJ2 NZ2 Qz_2
    generalize ((((w23.setCell ⟨wr.heap.size, 0, none⟩ (.bool sz)).setCell ⟨wr.heap.size, 1, none⟩ (.slice Az nz cz)).setCell ⟨wr.heap.size, 2, none⟩ (.bool tz)).setCell ⟨wr.heap.size, 3, none⟩ (.slice Bz mz dz)) = w24 at *
    have HOz := Lib.hid (HO.out.ext NJ2.out)
    have hEa : Ext w24 (w24.alloc (.cells #[.bool sz, .slice Az nz cz, .bool tz, .slice Bz mz dz] 34)) := Ext.al Ext.rfl' _
    have HE2 := Lib.hid (Ext.trans (Ext.trans HEr.out NJ2.out) hEa)
    have HO2 := Lib.hid (HOz.out.ext hEa)
    have HQI := Lib.hid (Qz_2.out.is.ext hEa)
    have KX := Lib.hid (Kx_2.out.ext hEa)
    have hcase := Qz.out.away 0
    have HAW : Hid (AwayO u7.ownBlock Az nz ∧ AwayO u7.ownBlock Bz mz) := by
      refine ⟨fun g hg hn ad ha => ?_, fun g hg hn ad ha => ?_⟩
      · have h1 := (HO.out.lt hg).1
        have h2 := hcase.1 hn ad ha
        have h3 := (Nat.le_trans Ew20.out.size (Nat.le_trans Ew21.out.size Ew22.out.size))
        omega
      · have h1 := (HO.out.lt hg).1
        have h2 := hcase.2 hn ad ha
        have h3 := (Nat.le_trans Ew20.out.size (Nat.le_trans Ew21.out.size Ew22.out.size))
        omega
    clear hcase
    have HLN := Lib.hid (Qz_2.out.len (HSE.out.add (sz_abs HSF.out)))
    have HNW := Lib.hid (World.news_of_block (cs := #[.bool sz, .slice Az nz cz, .bool tz, .slice Bz mz dz]) (t := 34) (fr := (0, 0)) (heap_alloc_new w24 (.cells #[.bool sz, .slice Az nz cz, .bool tz, .slice Bz mz dz] 34)))
    have hw1s : w4.heap.size ≤ (w24.alloc (.cells #[.bool sz, .slice Az nz cz, .bool tz, .slice Bz mz dz] 34)).heap.size := HE2.out.size
    obtain ⟨hpl, cs, hown0, hrows⟩ := HO2.out
    have HOW := Lib.hid hown0
    have HRS := Lib.hid hrows
    have HPLx := Lib.hid hpl
    clear hpl hown0 hrows HO2 hEa
    obtain ⟨⟨xx0, xx1, xx2, xx3⟩, -, zx⟩ := Kx_2.out
    have hgx : wr.heap.size ≤ wr.heap.size := (Nat.le_refl _)
    go_wp2_with (
      at_builtin
      refine wpList_append_atW _ rfl (.tmp 60) (.tmp 62) 25 rfl (w4.heap.size) 34 i0 _ 4 64 Try.underlying25 HI0.out.1 HI0.out.2.1 HI0.out.2.2.1 HI0.out.2.2.2 rfl (by omega) u7 q _ rfl HOW.out ⟨w24.heap.size, 0, none⟩ 1 1 [.bool sz, .slice Az nz cz, .bool tz, .slice Bz mz dz] rfl rfl HNW.out (by simp [Value.oneCell']) (.inr (by omega)) (by simp [maxLen]; omega) (by omega) hw1s ?_
      intro g cap w25 hown hgr hgg
      have HN := Lib.hid (QOwn.push HPLx.out HOW.out HRS.out HQI.out ⟨by have := HLN.out; omega, by have := HLN.out; omega⟩ HAW.out hown hgr hgg)
      have EG := Lib.hid (ext_grownW HE2.out hgr (fun g hg => (own_lt HOW.out hg).2))
      have KG := Lib.hid (KX.out.grown hgr (by intro he; have := (HO.out.lt he.symm).1; have := hgx; omega))
      have HQG := Lib.hid (HQI.out.grown hgr HAW.out)
      have HSZG := Lib.hid hgr.size
      clear hown hgr hgg)
    clear xx0 xx1 xx2 xx3 zx hgx hw1s HQI KX HNW
    refine wp_region_havS [10] [0, 1, 2, 3, 4, 5, 6, 7, 8, 9] [11, 12, 13] (fun _ => .cells #[.bool false, .slice none 0 0, .bool false, .slice none 0 0] 34) (by kernel_rfl) (by kernel_rfl) ?_ ?_
    · intro f hf
      simp only [List.mem_cons, List.not_mem_nil, or_false] at hf
      rcases hf with rfl
      all_goals exact makes_q (by rfl) rfl
    have hE : Ext w25 w25.drew := Ext.rfl'.drew
    generalize w25.drew = w26 at *
    have Ew26 := Lib.hid hE
    clear hE
    have fu0 := fun z : ExtX w26 [] => z.cell (p := ⟨w.heap.size, 0, none⟩) (Ku.out.ext (Ext.trans Ew2.out (Ext.trans Ew3.out (Ext.trans Ew4.out (Ext.trans EG.out Ew26.out))))).1 (by simp)
    have fu1 := fun z : ExtX w26 [] => z.cell (p := ⟨w.heap.size, 1, none⟩) (Ku.out.ext (Ext.trans Ew2.out (Ext.trans Ew3.out (Ext.trans Ew4.out (Ext.trans EG.out Ew26.out))))).2.1 (by simp)
    have fu2 := fun z : ExtX w26 [] => z.cell (p := ⟨w.heap.size, 2, none⟩) (Ku.out.ext (Ext.trans Ew2.out (Ext.trans Ew3.out (Ext.trans Ew4.out (Ext.trans EG.out Ew26.out))))).2.2.1 (by simp)
    have fu3 := fun z : ExtX w26 [] => z.cell (p := ⟨w.heap.size, 3, none⟩) (Ku.out.ext (Ext.trans Ew2.out (Ext.trans Ew3.out (Ext.trans Ew4.out (Ext.trans EG.out Ew26.out))))).2.2.2.1 (by simp)
    have fu4 := fun z : ExtX w26 [] => z.cell (p := ⟨w.heap.size, 4, none⟩) (Ku.out.ext (Ext.trans Ew2.out (Ext.trans Ew3.out (Ext.trans Ew4.out (Ext.trans EG.out Ew26.out))))).2.2.2.2.1 (by simp)
    have fu5 := fun z : ExtX w26 [] => z.cell (p := ⟨w.heap.size, 5, none⟩) (Ku.out.ext (Ext.trans Ew2.out (Ext.trans Ew3.out (Ext.trans Ew4.out (Ext.trans EG.out Ew26.out))))).2.2.2.2.2.1 (by simp)
    have fu6 := fun z : ExtX w26 [] => z.cell (p := ⟨w.heap.size, 6, none⟩) (Ku.out.ext (Ext.trans Ew2.out (Ext.trans Ew3.out (Ext.trans Ew4.out (Ext.trans EG.out Ew26.out))))).2.2.2.2.2.2.1 (by simp)
    have fu7 := fun z : ExtX w26 [] => z.cell (p := ⟨w.heap.size, 7, none⟩) (Ku.out.ext (Ext.trans Ew2.out (Ext.trans Ew3.out (Ext.trans Ew4.out (Ext.trans EG.out Ew26.out))))).2.2.2.2.2.2.2.1 (by simp)
    have fu8 := fun z : ExtX w26 [] => z.cell (p := ⟨w.heap.size, 8, none⟩) (Ku.out.ext (Ext.trans Ew2.out (Ext.trans Ew3.out (Ext.trans Ew4.out (Ext.trans EG.out Ew26.out))))).2.2.2.2.2.2.2.2 (by simp)
    have fp0 := fun z : ExtX w26 [] => z.cell (p := ⟨bP, oP + q * 4, none⟩) (Ext.cellOf (Ext.trans Ew1.out (Ext.trans Ew2.out (Ext.trans Ew3.out (Ext.trans Ew4.out (Ext.trans EG.out Ew26.out))))) HP4.out.1) (by simp)
    have fp1 := fun z : ExtX w26 [] => z.cell (p := ⟨bP, oP + q * 4 + 1, none⟩) (Ext.cellOf (Ext.trans Ew1.out (Ext.trans Ew2.out (Ext.trans Ew3.out (Ext.trans Ew4.out (Ext.trans EG.out Ew26.out))))) HP4.out.2.1) (by simp)
    have fp2 := fun z : ExtX w26 [] => z.cell (p := ⟨bP, oP + q * 4 + 2, none⟩) (Ext.cellOf (Ext.trans Ew1.out (Ext.trans Ew2.out (Ext.trans Ew3.out (Ext.trans Ew4.out (Ext.trans EG.out Ew26.out))))) HP4.out.2.2.1) (by simp)
    have fp3 := fun z : ExtX w26 [] => z.cell (p := ⟨bP, oP + q * 4 + 3, none⟩) (Ext.cellOf (Ext.trans Ew1.out (Ext.trans Ew2.out (Ext.trans Ew3.out (Ext.trans Ew4.out (Ext.trans EG.out Ew26.out))))) HP4.out.2.2.2) (by simp)
    intro w27 hE
    have Ew27 := Lib.hid hE
    clear hE
    repeat (refine havAt_still (by rfl) (by rfl) ?_; go_big_quiet_step (fail); refine wpQuiet_nil ?_)
    refine havAt_move (by rfl) (by rfl) (by kernel_rfl) ?_
    go_wp2_with fail
    refine (hour_any u A n c se Ae ne ce te Be me de pk w27 (HS.out.below (Ext.trans Ew1.out (Ext.trans Ew2.out (Ext.trans Ew3.out (Ext.trans Ew4.out (Ext.trans EG.out (Ext.trans Ew26.out Ew27.out))))))) hn (He.out.ext (Ext.trans Ew1.out (Ext.trans Ew2.out (Ext.trans Ew3.out (Ext.trans Ew4.out (Ext.trans EG.out (Ext.trans Ew26.out Ew27.out))))))) lp1 lp2).mono ?_
    rintro e w28 ⟨sa, Aa, na, ca, ta, Ba, ma, da, rfl, hQ, hE⟩
    have Ew28 := Lib.hid hE
    clear hE
    have Qa := Lib.hid hQ
    clear hQ
    go_wp2_with fail
    refine And.intro Ew28.out (fun w29 hE => ?_)
    have Ew29 := Lib.hid hE
    clear hE
    repeat (refine havAt_still (by rfl) (by rfl) ?_; go_big_quiet_step (fail); refine wpQuiet_nil ?_)
    refine havAt_end ?_
    intro gs hgs hne
    have hpa := hgs 10 (by simp)
    change IdxAt _ _ _ _ _ _ (Act.put _ (some 11) (.pointer (some ⟨gs 10, 0, none⟩))) _
    generalize gs 10 = ga at *
    clear hgs hne
    simp only [Act.put, List.setIfInBounds_toArray, List.set_cons_succ, List.set_cons_zero]
    have Pa := Lib.hid hpa
    have Ka := Lib.hid (Cell4.of_blk hpa.2.1)
    clear hpa
    repeat (refine idxAt_still (by rfl) (by rfl) ?_; go_big_quiet_step (fail); refine wpQuiet_nil ?_)
    obtain ⟨⟨o0, o1, o2, o3⟩, ⟨q0, q1, q2, q3⟩, ol⟩ := Ka.out
    refine idxAt_move (by rfl) (by rfl) (by kernel_rfl) ?_
    go_wp2_with fail
    refine And.intro (inX_put (p := ⟨ga, 3, none⟩) (inX_put (p := ⟨ga, 2, none⟩) (inX_put (p := ⟨ga, 1, none⟩) (inX_put (p := ⟨ga, 0, none⟩) (inX_of_ext _ (Ext.trans Ew27.out (Ext.trans Ew28.out Ew29.out))) (.inr Pa.out.1) _) (.inr Pa.out.1) _) (.inr Pa.out.1) _) (.inr Pa.out.1) _) ?_
    clear o0 o1 o2 o3 q0 q1 q2 q3 ol
    have Ka_3 := Lib.hid (Ka.out.put4 (.bool sa) (.slice Aa na ca) (.bool ta) (.slice Ba ma da))
    have NJ3 := Lib.hid (ext_put4 (Ext.trans Ew27.out (Ext.trans Ew28.out Ew29.out)) (g := ga) Pa.out.1 0 (.bool sa) (.slice Aa na ca) (.bool ta) (.slice Ba ma da))
    have NZ3 : Hid (w29.heap.size ≤ (put4 w29 (ga) 0 (.bool sa) (.slice Aa na ca) (.bool ta) (.slice Ba ma da)).heap.size) := by unfold Hid; rw [put4_size]; exact Nat.le_refl _
    have Qa_3 := Lib.hid ((Qa.out.ext Ew29.out).put4A (g := ga) (Qa.out.span (Pa.out.2.2 (w27.heap.size, w28.heap.size) (by simp))) 0 (.bool sa) (.slice Aa na ca) (.bool ta) (.slice Ba ma da))
    unfold put4 at Ka_3 NJ3 NZ3 Qa_3
    simp only [Nat.zero_add] at Ka_3 NJ3 NZ3 Qa_3
    generalize ((((w29.setCell ⟨ga, 0, none⟩ (.bool sa)).setCell ⟨ga, 1, none⟩ (.slice Aa na ca)).setCell ⟨ga, 2, none⟩ (.bool ta)).setCell ⟨ga, 3, none⟩ (.slice Ba ma da)) = w30 at *
    repeat (refine idxAt_still (by rfl) (by rfl) ?_; go_big_quiet_step (fail); refine wpQuiet_nil ?_)
    refine idxAt_nil ?_
    clear fu0 fu1 fu2 fu3 fu4 fu5 fu6 fu7 fu8 fp0 fp1 fp2 fp3
    obtain ⟨ck, hck⟩ : ∃ v', u.check 6 = v' := ⟨_, rfl⟩
    rw [hck]
    have HCK := Lib.hid hck
    clear hck
    have hcn : (ck != ck) = false := by simp
    have zu := World.block_lt_of_cell? _ _ (Ku.out.ext (Ext.trans Ew2.out (Ext.trans Ew3.out (Ext.trans Ew4.out (Ext.trans EG.out (Ext.trans Ew26.out NJ3.out)))))).1
    have xu0 := (Ku.out.ext (Ext.trans Ew2.out (Ext.trans Ew3.out (Ext.trans Ew4.out (Ext.trans EG.out (Ext.trans Ew26.out NJ3.out)))))).1
    have xu1 := (Ku.out.ext (Ext.trans Ew2.out (Ext.trans Ew3.out (Ext.trans Ew4.out (Ext.trans EG.out (Ext.trans Ew26.out NJ3.out)))))).2.1
    have xu2 := (Ku.out.ext (Ext.trans Ew2.out (Ext.trans Ew3.out (Ext.trans Ew4.out (Ext.trans EG.out (Ext.trans Ew26.out NJ3.out)))))).2.2.1
    have xu3 := (Ku.out.ext (Ext.trans Ew2.out (Ext.trans Ew3.out (Ext.trans Ew4.out (Ext.trans EG.out (Ext.trans Ew26.out NJ3.out)))))).2.2.2.1
    have xu4 := (Ku.out.ext (Ext.trans Ew2.out (Ext.trans Ew3.out (Ext.trans Ew4.out (Ext.trans EG.out (Ext.trans Ew26.out NJ3.out)))))).2.2.2.2.1
    have xu5 := (Ku.out.ext (Ext.trans Ew2.out (Ext.trans Ew3.out (Ext.trans Ew4.out (Ext.trans EG.out (Ext.trans Ew26.out NJ3.out)))))).2.2.2.2.2.1
    have xu6 := (Ku.out.ext (Ext.trans Ew2.out (Ext.trans Ew3.out (Ext.trans Ew4.out (Ext.trans EG.out (Ext.trans Ew26.out NJ3.out)))))).2.2.2.2.2.2.1
    have xu7 := (Ku.out.ext (Ext.trans Ew2.out (Ext.trans Ew3.out (Ext.trans Ew4.out (Ext.trans EG.out (Ext.trans Ew26.out NJ3.out)))))).2.2.2.2.2.2.2.1
    have xu8 := (Ku.out.ext (Ext.trans Ew2.out (Ext.trans Ew3.out (Ext.trans Ew4.out (Ext.trans EG.out (Ext.trans Ew26.out NJ3.out)))))).2.2.2.2.2.2.2.2
    obtain ⟨⟨xx0, xx1, xx2, xx3⟩, -, zx⟩ := (KG.out.ext (Ext.trans Ew26.out NJ3.out))
    go_wp2_with fail
    clear zu xu0 xu1 xu2 xu3 xu4 xu5 xu6 xu7 xu8 xx0 xx1 xx2 xx3 zx
    refine (hour_any u A n c sz Az nz cz tz Bz mz dz (pk + absQ hq2) w30 (HS.out.below (Ext.trans Ew1.out (Ext.trans Ew2.out (Ext.trans Ew3.out (Ext.trans Ew4.out (Ext.trans EG.out (Ext.trans Ew26.out NJ3.out))))))) hn (HQG.out.ext (Ext.trans Ew26.out NJ3.out)) (by have := HLN.out; omega) (by have := HLN.out; omega)).mono ?_
    rintro e w31 ⟨sb, Ab, nb, cb, tb, Bb, mb, db, rfl, hQ, hE⟩
    have Ew31 := Lib.hid hE
    clear hE
    have Qb := Lib.hid hQ
    clear hQ
    rw [HCK.out]
    obtain ⟨⟨xa0, xa1, xa2, xa3⟩, -, za⟩ := (Ka_3.out.ext Ew31.out)
    go_wp2_with fail
    clear xa0 xa1 xa2 xa3 za
    have kw32 := Cell4.new w31 _ rfl (.bool sb) (.slice Ab nb cb) (.bool tb) (.slice Bb mb db) 34
    have hE : Ext w31 (w31.alloc (.cells #[.bool sb, .slice Ab nb cb, .bool tb, .slice Bb mb db] 34)) := Ext.al Ext.rfl' _
    generalize w31.alloc (.cells #[.bool sb, .slice Ab nb cb, .bool tb, .slice Bb mb db] 34) = w32 at *
    have Ew32 := Lib.hid hE
    clear hE
    have Kb := Lib.hid kw32
    clear kw32
    refine (qcmp_any sa Aa na ca ta Ba ma da _ sb Ab nb cb tb Bb mb db _ w32 ((Qa_3.out.ext (Ext.trans Ew31.out Ew32.out)).arg (sz_hpE HSE.out) (by omega)) ((Qb.out.ext Ew32.out).arg (sz_hpE (HSE.out.add (sz_abs HSF.out))) (by omega))).mono ?_
    rintro e w33 ⟨rfl, hE⟩
    have Ew33 := Lib.hid hE
    clear hE
    obtain ⟨cm, hcm⟩ : ∃ x, cmpQ ((u.hpE pk)) ((u.hpE (pk + absQ hq2))) = x := ⟨_, rfl⟩
    rw [hcm]
    have Hcm := Lib.hid hcm
    clear hcm
    have hcm : decide (0 < cm) = false := by
      have : ¬ 0 < cm := by rw [← Hcm.out]; exact fun e => Rat.not_lt.2 (hpE_mono (u := u) HUX.out) ((cmpQ_pos _ _).1 e)
      simp; omega
    go_wp2_with fail
    go_roundw
    case rel => exact ⟨q + 1, by omega, by go_num, (Ext.trans EG.out (Ext.trans Ew26.out (Ext.trans NJ3.out (Ext.trans Ew31.out (Ext.trans Ew32.out Ew33.out))))), by rw [HUA.out, HUV.out]; exact (HN.out.ext (Ext.trans Ew26.out (Ext.trans NJ3.out (Ext.trans Ew31.out (Ext.trans Ew32.out Ew33.out)))))⟩
    case measure => simp [intOf]; omega
end Go.Proofs.Ytjinpfnefeiooaa
