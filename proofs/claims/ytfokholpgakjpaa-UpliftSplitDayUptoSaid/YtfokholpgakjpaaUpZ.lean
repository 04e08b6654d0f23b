/- The walk of the law UpliftSplitDay. Printed by gen_upz.py. -/
import Derived.Test.YtfokholpgakjpaaUpY
import Derived.Test.YtfokholpgakjpaaLexW
import Derived.Test.YtfokholpgakjpaaLexFS
namespace Go.Proofs.Ytfokholpgakjpaa
open Go.RowKit

theorem U8.ofU {n : Int} (h : (Lit.int .u8 n).wf = true) : 0 ≤ n ∧ n ≤ 255 := by
  have h' := h
  simp [Lit.wf, IntKind.min, IntKind.max, IntKind.signed, IntKind.bits] at h'
  exact ⟨by omega, by omega⟩
theorem UBox.set8U {w w' : World} {g : Nat} {u : U} {A : Option Addr} {n c : Nat} {z : Int} (h : UBox w g u A n c) (hp : PutVs g 8 [.int .i64 z] w w') : UBox w' g (u.onAt z) A n c := by
  obtain ⟨h0, h1, h2, h3, h4, h5, h6, h7, h8⟩ := h
  have e : ∀ i, i < 8 → w'.cell? ⟨g, i, none⟩ = w.cell? ⟨g, i, none⟩ := fun i hi => hp.far i (by simp; omega)
  exact ⟨(e 0 (by omega)).trans h0, (e 1 (by omega)).trans h1, (e 2 (by omega)).trans h2, (e 3 (by omega)).trans h3, (e 4 (by omega)).trans h4, (e 5 (by omega)).trans h5, (e 6 (by omega)).trans h6, (e 7 (by omega)).trans h7, hp.here 0 _ rfl⟩
theorem bools_madeU (w : World) (k : Nat) (t : TypeId) : BoolsAt (w.alloc (.cells (madeCells #[.bool false] (k * 1)) t)) (some ⟨w.heap.size, 0, none⟩) k (List.replicate k false) := by
  have hb := Blk.new w t (madeCells #[.bool false] (k * 1))
  refine ⟨by simp, fun _ => ⟨w.heap.size, 0, rfl, hb.lt, fun i hi => ?_⟩⟩
  rw [Nat.zero_add, hb.cell]
  simp [madeCells, hi, List.getD, Nat.mod_one]
theorem qis0 (w : World) {c d : Nat} {A B : Option Addr} (h1 : c ≤ maxLen) (h2 : d ≤ maxLen) : QIs w false A 0 c false B 0 d 0 :=
  ⟨0, 0, ⟨[], ⟨rfl, by simp [Words], fun h => absurd h (by omega)⟩, Nat.zero_le _, h1, rfl⟩, ⟨[], ⟨rfl, by simp [Words], fun h => absurd h (by omega)⟩, Nat.zero_le _, h2, rfl⟩, by decide +kernel⟩
/-- Kinds of values of the last region. -/
inductive ZK where
  | is (v : Value)
  | bools (k : Nat)
  | zeros (k : Nat)
  | tup
  | agg
  | cell (B : Nat)
def ZK.holds : ZK → Value → World → Prop
  | .is v0, v, _ => v = v0
  | .bools k, v, w => ∃ g, v = .slice (some ⟨g, 0, none⟩) k k ∧ BoolsAt w (some ⟨g, 0, none⟩) k (List.replicate k false)
  | .zeros k, v, w => ∃ g, v = .slice (some ⟨g, 0, none⟩) k k ∧ QsK 1048576 w (some ⟨g, 0, none⟩) k (List.replicate k 0)
  | .tup, v, _ => ∃ A c B d, v = .tuple #[.agg #[.bool false, .slice A 0 c, .bool false, .slice B 0 d], .int .i64 0] ∧ c ≤ maxLen ∧ d ≤ maxLen
  | .agg, v, _ => ∃ A c B d, v = .agg #[.bool false, .slice A 0 c, .bool false, .slice B 0 d] ∧ c ≤ maxLen ∧ d ≤ maxLen
  | .cell B, v, w => ∃ g, v = .pointer (some ⟨g, 0, none⟩) ∧ B ≤ g ∧ Cell4 w g (.bool false) (.slice none 0 0) (.bool false) (.slice none 0 0)
theorem ZK.mono {k : ZK} {v : Value} {w w' : World} (h : k.holds v w) (hE : Ext w w') : k.holds v w' := by
  cases k with
  | is v0 => exact h
  | bools k => obtain ⟨g, h1, h2⟩ := h; exact ⟨g, h1, h2.below hE⟩
  | zeros k => obtain ⟨g, h1, h2⟩ := h; exact ⟨g, h1, h2.ext hE⟩
  | tup => exact h
  | agg => exact h
  | cell B => obtain ⟨g, h1, h2, h3⟩ := h; exact ⟨g, h1, h2, h3.ext hE⟩
/-- What the store leaves. -/
def ZStored (vp vv : Value) (wp w' : World) : Prop := ∃ g A c B d, vp = .pointer (some ⟨g, 0, none⟩) ∧ vv = .agg #[.bool false, .slice A 0 c, .bool false, .slice B 0 d] ∧ c ≤ maxLen ∧ d ≤ maxLen ∧ Touch g wp w' ∧ Cell4 w' g (.bool false) (.slice A 0 c) (.bool false) (.slice B 0 d)
theorem qcan_zero_len {w : World} {B0 : Nat} {s : Bool} {A : Option Addr} {n c : Nat} {t : Bool} {B : Option Addr} {m d : Nat} (h : QCan w B0 s A n c t B m d 0) : s = false ∧ t = false ∧ n = 0 ∧ m = 0 ∧ c ≤ maxLen ∧ d ≤ maxLen := by
  obtain ⟨⟨h1, h2, _, h3, _⟩, ⟨h4, h5, _, h6, _⟩⟩ := h
  refine ⟨by rw [h1]; rfl, by rw [h4]; rfl, ?_, ?_, h3, h6⟩
  · rw [← h2.1]; decide +kernel
  · rw [← h5.1]; decide +kernel
theorem dayV_bad {u : U} {plan ran : List Bool} {gs : List Rat} (h : u.dayE plan ran gs ≠ 0) : u.dayV plan ran gs = 0 := if_neg h
set_option maxRecDepth 100000 in
set_option maxHeartbeats 64000000 in
theorem split_any (u : U) (A : Option Addr) (n c : Nat) (Rp : Option Addr) (m dp : Nat) (plan : List Bool) (R : Option Addr) (mr dR : Nat) (ran : List Bool) (P : Option Addr) (k cp : Nat) (qs : List Rat) (z : Int) (w : World) (hs : StepsAt w A n u.steps) (hn : n ≤ maxLen) (hp : BoolsAt w Rp m plan) (hm : m ≤ maxLen) (hr : BoolsAt w R mr ran) (hmr : mr ≤ maxLen) (hg : QsK 1048576 w P k qs) (hk : k ≤ maxLen) (hdp : m ≤ dp) (hdR : mr ≤ dR) (hcp : k ≤ cp) (hz : 0 ≤ z ∧ z ≤ 255) :
    Calls Try.prog 5 #[u.val A n c, .slice Rp m dp, .slice R mr dR, .slice P k cp, .int .u8 z] w fun e w' => e = .returned (.bool true) ∧ Ext w w' := by
  have HS := Lib.hid hs
  have HP := Lib.hid hp
  have HR := Lib.hid hr
  have HG := Lib.hid hg
  have HPL := Lib.hid hp.1
  have HRL := Lib.hid hr.1
  have HGL := Lib.hid hg.1
  clear hs hp hr hg
  obtain ⟨zn, rfl⟩ : ∃ v : Nat, z = (v : Int) := ⟨z.toNat, by omega⟩
  obtain ⟨hz1, hz2⟩ := hz
  unfold maxLen at hm hmr hk
  go_enter Try.func5, Try.ntmps5
  go_wp2_with fail
  have k0 := UBox.new (w) (w.heap.size) (by simp) u A n c 40
  have hE : Ext w ((w).alloc (.cells #[.int .i64 u.bus, .int .i64 u.mn, .slice A n c, .int .i64 u.up, .int .i64 u.down, .int .i64 u.start, .int .i64 u.idle, .int .i64 u.spin, .int .i64 u.on] 40)) := (Ext.al Ext.rfl' _)
  have hsz : ((w).alloc (.cells #[.int .i64 u.bus, .int .i64 u.mn, .slice A n c, .int .i64 u.up, .int .i64 u.down, .int .i64 u.start, .int .i64 u.idle, .int .i64 u.spin, .int .i64 u.on] 40)).heap.size = w.heap.size + 1 := by simp
  generalize (w).alloc (.cells #[.int .i64 u.bus, .int .i64 u.mn, .slice A n c, .int .i64 u.up, .int .i64 u.down, .int .i64 u.start, .int .i64 u.idle, .int .i64 u.spin, .int .i64 u.on] 40) = w1 at *
  have SZw1 := Lib.hid hsz
  clear hsz
  have Ew1 := Lib.hid hE
  clear hE
  have Ku := Lib.hid k0
  clear k0
  refine (long37_any u A n c Rp m dp R mr dR P k cp qs w1 (HG.out.ext Ew1.out) (by unfold maxLen; omega)).mono ?_
  rintro e w2 ⟨⟨bl, rfl, hbl⟩, hE⟩
  have Ew2 := Lib.hid hE
  clear hE
  have HLN := Lib.hid hbl
  clear hbl
  cases bl
  rotate_left
  · skip
    go_wp2_with fail
    refine (awake_any w2).mono ?_
    rintro e wz ⟨rfl, hEz⟩
    go_wp2_with fail
    go_ret
    exact ⟨rfl, Ext.trans (Ext.trans Ew1.out Ew2.out) hEz⟩
  obtain ⟨hm40, -, -⟩ := HLN.out rfl
  clear HLN
  by_cases hm0 : m = 0
  · have hb : ((m : Int) == 0) = true := by simp; omega
    have hb2 : (m == 0) = true := by simp; omega
    go_wp2_with fail
    refine (awake_any w2).mono ?_
    rintro e wz ⟨rfl, hEz⟩
    go_wp2_with fail
    go_ret
    exact ⟨rfl, Ext.trans (Ext.trans Ew1.out Ew2.out) hEz⟩
  have hb : ((m : Int) == 0) = false := by simp; omega
  have hb2 : (m == 0) = false := by simp; omega
  by_cases hmn : mr = m
  rotate_left
  · have hc : ((mr : Int) != (m : Int)) = true := by simp; omega
    have hc2 : (mr != m) = true := by simp; omega
    go_wp2_with fail
    refine (awake_any w2).mono ?_
    rintro e wz ⟨rfl, hEz⟩
    go_wp2_with fail
    go_ret
    exact ⟨rfl, Ext.trans (Ext.trans Ew1.out Ew2.out) hEz⟩
  subst hmn
  have hc : ((mr : Int) != (mr : Int)) = false := by simp
  have hc2 : (mr != mr) = false := by simp
  by_cases hkn : k = mr
  rotate_left
  · have hd : ((k : Int) != (mr : Int)) = true := by simp; omega
    have hd2 : (k != mr) = true := by simp; omega
    go_wp2_with fail
    refine (awake_any w2).mono ?_
    rintro e wz ⟨rfl, hEz⟩
    go_wp2_with fail
    go_ret
    exact ⟨rfl, Ext.trans (Ext.trans Ew1.out Ew2.out) hEz⟩
  subst hkn
  go_wp2_with fail
  refine (awake_any w2).mono ?_
  rintro e w3 ⟨rfl, hE⟩
  have Ew3 := Lib.hid hE
  clear hE
  have zu := World.block_lt_of_cell? _ _ (Ku.out.ext (Ext.trans Ew2.out Ew3.out)).1
  have xu0 := (Ku.out.ext (Ext.trans Ew2.out Ew3.out)).1
  have xu1 := (Ku.out.ext (Ext.trans Ew2.out Ew3.out)).2.1
  have xu2 := (Ku.out.ext (Ext.trans Ew2.out Ew3.out)).2.2.1
  have xu3 := (Ku.out.ext (Ext.trans Ew2.out Ew3.out)).2.2.2.1
  have xu4 := (Ku.out.ext (Ext.trans Ew2.out Ew3.out)).2.2.2.2.1
  have xu5 := (Ku.out.ext (Ext.trans Ew2.out Ew3.out)).2.2.2.2.2.1
  have xu6 := (Ku.out.ext (Ext.trans Ew2.out Ew3.out)).2.2.2.2.2.2.1
  have xu7 := (Ku.out.ext (Ext.trans Ew2.out Ew3.out)).2.2.2.2.2.2.2.1
  have xu8 := (Ku.out.ext (Ext.trans Ew2.out Ew3.out)).2.2.2.2.2.2.2.2
  go_wp2_with fail
  clear zu xu0 xu1 xu2 xu3 xu4 xu5 xu6 xu7 xu8
  clear hb hb2 hc hc2
  have HZ : Hid (∀ i, i < qs.length → Sz 1048576 (qs.getD i 0)) := fun i _ => HG.out.sz (by omega) i
  have HZA : Hid (Sz 8388674 (u.dayV plan ran qs)) := (sz_dayV HZ.out).mono (by omega)
  obtain ⟨de, hde⟩ : ∃ v, u.dayE plan ran qs = v := ⟨_, rfl⟩
  have HDE := Lib.hid hde
  clear hde
  refine (upcost_any u A n c Rp k dp plan R k dR ran P k cp qs w3 (HS.out.below (Ext.trans Ew1.out (Ext.trans Ew2.out Ew3.out))) hn (HP.out.below (Ext.trans Ew1.out (Ext.trans Ew2.out Ew3.out))) (by unfold maxLen; omega) (HR.out.below (Ext.trans Ew1.out (Ext.trans Ew2.out Ew3.out))) (by unfold maxLen; omega) (HG.out.ext (Ext.trans Ew1.out (Ext.trans Ew2.out Ew3.out))) (by unfold maxLen; omega)).mono ?_
  rintro e w4 ⟨sa, Aa, na, ca, ta, Ba, ma, da, rfl, hQ, hE⟩
  have Ew4 := Lib.hid hE
  clear hE
  rw [HDE.out]
  have Qa := Lib.hid hQ
  clear hQ
  by_cases hd0 : de = 0
  rotate_left
  · have hb : (de != 0) = true := by simp [hd0]
    have HV0 : Hid (u.dayV plan ran qs = 0) := dayV_bad (by rw [HDE.out]; exact hd0)
    clear hd0
    rw [HV0.out] at Qa
    go_wp2_with fail
    have kw5 := Cell4.new w4 _ rfl (.bool sa) (.slice Aa na ca) (.bool ta) (.slice Ba ma da) 30
    have hE : Ext w4 (w4.alloc (.cells #[.bool sa, .slice Aa na ca, .bool ta, .slice Ba ma da] 30)) := Ext.al Ext.rfl' _
    generalize w4.alloc (.cells #[.bool sa, .slice Aa na ca, .bool ta, .slice Ba ma da] 30) = w5 at *
    have Ew5 := Lib.hid hE
    clear hE
    have Ka := Lib.hid kw5
    clear kw5
    have hl := Qa.out.len sz_zero
    refine (is_any sa Aa na ca ta Ba ma da 0 0 w5 ⟨(Qa.out.ext Ew5.out).is, by omega, by omega⟩ (by omega)).mono ?_
    rintro e w6 ⟨rfl, hE⟩
    have Ew6 := Lib.hid hE
    clear hE
    rw [decide_eq_true (show (0 : Rat) = ((0 : Int) : Rat) from rfl)]
    go_wp2_with fail
    go_ret
    exact ⟨rfl, (Ext.trans Ew1.out (Ext.trans Ew2.out (Ext.trans Ew3.out (Ext.trans Ew4.out (Ext.trans Ew5.out Ew6.out)))))⟩
  subst hd0
  have hb : ((0 : Int) != 0) = false := by decide
  have HOK := Lib.hid (dayE_zero.1 HDE.out)
  have hk8 : k ≤ 8 := by rw [← HPL.out]; exact HOK.out.2.1
  obtain ⟨q1, hq1⟩ : ∃ v, zn % k = v := ⟨_, rfl⟩
  have hqk : q1 < k := by rw [← hq1]; exact Nat.mod_lt zn (by omega)
  have hje : (zn : Int) % (k : Int) = (q1 : Int) := by rw [← hq1]; simp
  clear hq1
  obtain ⟨j, hj⟩ : ∃ v, 1 + q1 = v := ⟨_, rfl⟩
  have hjk : j ≤ k := by omega
  have hj0 : 0 < j := by omega
  have hj1 : (1 : Int) + (q1 : Int) = (j : Int) := by omega
  have hkz : ¬ (k : Int) = 0 := by omega
  have hkz2 : ¬ k = 0 := by omega
  go_upto_region 7 with (fail)
  have kw7 := Cell4.new w4 _ rfl (.bool sa) (.slice Aa na ca) (.bool ta) (.slice Ba ma da) 30
  have hE : Ext w4 (w4.alloc (.cells #[.bool sa, .slice Aa na ca, .bool ta, .slice Ba ma da] 30)) := Ext.al Ext.rfl' _
  generalize w4.alloc (.cells #[.bool sa, .slice Aa na ca, .bool ta, .slice Ba ma da] 30) = w7 at *
  have Ew7 := Lib.hid hE
  clear hE
  have Ka := Lib.hid kw7
  clear kw7
  clear hje hj1 hkz hkz2 hb
  have HSP := Lib.hid (day_split (u := u) (plan := plan) (ran := ran) (gs := qs) HDE.out hj0 (by rw [HPL.out]; exact hjk))
  have hh1 := slice_hiU 41 4 Try.underlying41 1 size_boolU Rp k dp j hjk hdp
  have hh2 := slice_hiU 41 4 Try.underlying41 1 size_boolU R k dR j hjk hdR
  have hh3 := slice_hiU 22 30 Try.underlying22 4 size_qU P k cp j hjk hcp
  obtain ⟨x1, x2⟩ := hh1
  obtain ⟨x3, x4⟩ := hh2
  obtain ⟨x5, x6⟩ := hh3
  have HZB : Hid (Sz 8388674 (u.dayV (plan.take j) (ran.take j) (qs.take j))) := (sz_dayV (K := 1048576) (fun i hi => by
    have hi2 : i < j := by simp at hi; omega
    rw [getD_takeU _ _ hi2]
    exact HG.out.sz (by omega) i)).mono (by omega)
  refine wp_region_havS [14] [0, 1, 2, 3, 4, 5, 6, 7, 8, 9, 10, 11, 12, 13] [15, 16] (fun _ => .cells #[.bool false, .slice none 0 0, .bool false, .slice none 0 0] 30) (by kernel_rfl) (by kernel_rfl) ?_ ?_
  · intro f hf
    simp only [List.mem_cons, List.not_mem_nil, or_false] at hf
    rcases hf with rfl
    all_goals exact makes_q (by rfl) rfl
  have hE : Ext w7 w7.drew := Ext.rfl'.drew
  generalize w7.drew = w8 at *
  have Ew8 := Lib.hid hE
  clear hE
  have fu0 := fun z : ExtX w8 [] => z.cell (p := ⟨w.heap.size, 0, none⟩) (Ku.out.ext (Ext.trans Ew2.out (Ext.trans Ew3.out (Ext.trans Ew4.out (Ext.trans Ew7.out Ew8.out))))).1 (by simp)
  have fu1 := fun z : ExtX w8 [] => z.cell (p := ⟨w.heap.size, 1, none⟩) (Ku.out.ext (Ext.trans Ew2.out (Ext.trans Ew3.out (Ext.trans Ew4.out (Ext.trans Ew7.out Ew8.out))))).2.1 (by simp)
  have fu2 := fun z : ExtX w8 [] => z.cell (p := ⟨w.heap.size, 2, none⟩) (Ku.out.ext (Ext.trans Ew2.out (Ext.trans Ew3.out (Ext.trans Ew4.out (Ext.trans Ew7.out Ew8.out))))).2.2.1 (by simp)
  have fu3 := fun z : ExtX w8 [] => z.cell (p := ⟨w.heap.size, 3, none⟩) (Ku.out.ext (Ext.trans Ew2.out (Ext.trans Ew3.out (Ext.trans Ew4.out (Ext.trans Ew7.out Ew8.out))))).2.2.2.1 (by simp)
  have fu4 := fun z : ExtX w8 [] => z.cell (p := ⟨w.heap.size, 4, none⟩) (Ku.out.ext (Ext.trans Ew2.out (Ext.trans Ew3.out (Ext.trans Ew4.out (Ext.trans Ew7.out Ew8.out))))).2.2.2.2.1 (by simp)
  have fu5 := fun z : ExtX w8 [] => z.cell (p := ⟨w.heap.size, 5, none⟩) (Ku.out.ext (Ext.trans Ew2.out (Ext.trans Ew3.out (Ext.trans Ew4.out (Ext.trans Ew7.out Ew8.out))))).2.2.2.2.2.1 (by simp)
  have fu6 := fun z : ExtX w8 [] => z.cell (p := ⟨w.heap.size, 6, none⟩) (Ku.out.ext (Ext.trans Ew2.out (Ext.trans Ew3.out (Ext.trans Ew4.out (Ext.trans Ew7.out Ew8.out))))).2.2.2.2.2.2.1 (by simp)
  have fu7 := fun z : ExtX w8 [] => z.cell (p := ⟨w.heap.size, 7, none⟩) (Ku.out.ext (Ext.trans Ew2.out (Ext.trans Ew3.out (Ext.trans Ew4.out (Ext.trans Ew7.out Ew8.out))))).2.2.2.2.2.2.2.1 (by simp)
  have fu8 := fun z : ExtX w8 [] => z.cell (p := ⟨w.heap.size, 8, none⟩) (Ku.out.ext (Ext.trans Ew2.out (Ext.trans Ew3.out (Ext.trans Ew4.out (Ext.trans Ew7.out Ew8.out))))).2.2.2.2.2.2.2.2 (by simp)
  intro w9 hE
  have Ew9 := Lib.hid hE
  clear hE
  repeat (refine havAt_still (by rfl) (by rfl) ?_; go_big_quiet_step (fail); refine wpQuiet_nil ?_)
  refine havAt_move (by rfl) (by rfl) (by kernel_rfl) ?_
  go_wp2_with fail
  refine (upcost_any u A n c Rp j dp (plan.take j) R j dR (ran.take j) P j cp (qs.take j) w9 (HS.out.below (Ext.trans Ew1.out (Ext.trans Ew2.out (Ext.trans Ew3.out (Ext.trans Ew4.out (Ext.trans Ew7.out (Ext.trans Ew8.out Ew9.out))))))) hn ((HP.out.below (Ext.trans Ew1.out (Ext.trans Ew2.out (Ext.trans Ew3.out (Ext.trans Ew4.out (Ext.trans Ew7.out (Ext.trans Ew8.out Ew9.out))))))).takeU hjk) (by unfold maxLen; omega) ((HR.out.below (Ext.trans Ew1.out (Ext.trans Ew2.out (Ext.trans Ew3.out (Ext.trans Ew4.out (Ext.trans Ew7.out (Ext.trans Ew8.out Ew9.out))))))).takeU hjk) (by unfold maxLen; omega) ((HG.out.ext (Ext.trans Ew1.out (Ext.trans Ew2.out (Ext.trans Ew3.out (Ext.trans Ew4.out (Ext.trans Ew7.out (Ext.trans Ew8.out Ew9.out))))))).takeU hjk) (by unfold maxLen; omega)).mono ?_
  rintro e w10 ⟨sb, Ab, nb, cb, tb, Bb, mb, db, rfl, hQ, hE⟩
  have Ew10 := Lib.hid hE
  clear hE
  rw [HSP.out.1]
  have Qb := Lib.hid hQ
  clear hQ
  go_wp2_with fail
  refine And.intro Ew10.out (fun w11 hE => ?_)
  have Ew11 := Lib.hid hE
  clear hE
  repeat (refine havAt_still (by rfl) (by rfl) ?_; go_big_quiet_step (fail); refine wpQuiet_nil ?_)
  refine havAt_end ?_
  intro gs hgs hne
  have hpb := hgs 14 (by simp)
  change IdxAt _ _ _ _ _ _ (Act.put _ (some 14) (.pointer (some ⟨gs 14, 0, none⟩))) _
  generalize gs 14 = gb at *
  clear hgs hne
  simp only [Act.put, List.setIfInBounds_toArray, List.set_cons_succ, List.set_cons_zero]
  have Pb := Lib.hid hpb
  have Kb := Lib.hid (Cell4.of_blk hpb.2.1)
  clear hpb
  repeat (refine idxAt_still (by rfl) (by rfl) ?_; go_big_quiet_step (fail); refine wpQuiet_nil ?_)
  obtain ⟨⟨o0, o1, o2, o3⟩, ⟨q0, q1, q2, q3⟩, ol⟩ := Kb.out
  refine idxAt_move (by rfl) (by rfl) (by kernel_rfl) ?_
  go_wp2_with fail
  refine And.intro (inX_put (p := ⟨gb, 3, none⟩) (inX_put (p := ⟨gb, 2, none⟩) (inX_put (p := ⟨gb, 1, none⟩) (inX_put (p := ⟨gb, 0, none⟩) (inX_of_ext _ (Ext.trans Ew9.out (Ext.trans Ew10.out Ew11.out))) (.inr Pb.out.1) _) (.inr Pb.out.1) _) (.inr Pb.out.1) _) (.inr Pb.out.1) _) ?_
  clear o0 o1 o2 o3 q0 q1 q2 q3 ol
  have Kb_1 := Lib.hid (Kb.out.put4 (.bool sb) (.slice Ab nb cb) (.bool tb) (.slice Bb mb db))
  have NJ1 := Lib.hid (ext_put4 (Ext.trans Ew9.out (Ext.trans Ew10.out Ew11.out)) (g := gb) Pb.out.1 0 (.bool sb) (.slice Ab nb cb) (.bool tb) (.slice Bb mb db))
  have NZ1 : Hid (w11.heap.size ≤ (put4 w11 (gb) 0 (.bool sb) (.slice Ab nb cb) (.bool tb) (.slice Bb mb db)).heap.size) := by unfold Hid; rw [put4_size]; exact Nat.le_refl _
  have Qb_1 := Lib.hid ((Qb.out.ext Ew11.out).put4A (g := gb) (Qb.out.span (Pb.out.2.2 (w9.heap.size, w10.heap.size) (by simp))) 0 (.bool sb) (.slice Ab nb cb) (.bool tb) (.slice Bb mb db))
  unfold put4 at Kb_1 NJ1 NZ1 Qb_1
  simp only [Nat.zero_add] at Kb_1 NJ1 NZ1 Qb_1
  generalize ((((w11.setCell ⟨gb, 0, none⟩ (.bool sb)).setCell ⟨gb, 1, none⟩ (.slice Ab nb cb)).setCell ⟨gb, 2, none⟩ (.bool tb)).setCell ⟨gb, 3, none⟩ (.slice Bb mb db)) = w12 at *
  repeat (refine idxAt_still (by rfl) (by rfl) ?_; go_big_quiet_step (fail); refine wpQuiet_nil ?_)
  refine idxAt_nil ?_
  clear fu0 fu1 fu2 fu3 fu4 fu5 fu6 fu7 fu8
  clear x1 x2 x3 x4 x5 x6
  have zu := World.block_lt_of_cell? _ _ (Ku.out.ext (Ext.trans Ew2.out (Ext.trans Ew3.out (Ext.trans Ew4.out (Ext.trans Ew7.out (Ext.trans Ew8.out NJ1.out)))))).1
  have xu0 := (Ku.out.ext (Ext.trans Ew2.out (Ext.trans Ew3.out (Ext.trans Ew4.out (Ext.trans Ew7.out (Ext.trans Ew8.out NJ1.out)))))).1
  have xu1 := (Ku.out.ext (Ext.trans Ew2.out (Ext.trans Ew3.out (Ext.trans Ew4.out (Ext.trans Ew7.out (Ext.trans Ew8.out NJ1.out)))))).2.1
  have xu2 := (Ku.out.ext (Ext.trans Ew2.out (Ext.trans Ew3.out (Ext.trans Ew4.out (Ext.trans Ew7.out (Ext.trans Ew8.out NJ1.out)))))).2.2.1
  have xu3 := (Ku.out.ext (Ext.trans Ew2.out (Ext.trans Ew3.out (Ext.trans Ew4.out (Ext.trans Ew7.out (Ext.trans Ew8.out NJ1.out)))))).2.2.2.1
  have xu4 := (Ku.out.ext (Ext.trans Ew2.out (Ext.trans Ew3.out (Ext.trans Ew4.out (Ext.trans Ew7.out (Ext.trans Ew8.out NJ1.out)))))).2.2.2.2.1
  have xu5 := (Ku.out.ext (Ext.trans Ew2.out (Ext.trans Ew3.out (Ext.trans Ew4.out (Ext.trans Ew7.out (Ext.trans Ew8.out NJ1.out)))))).2.2.2.2.2.1
  have xu6 := (Ku.out.ext (Ext.trans Ew2.out (Ext.trans Ew3.out (Ext.trans Ew4.out (Ext.trans Ew7.out (Ext.trans Ew8.out NJ1.out)))))).2.2.2.2.2.2.1
  have xu7 := (Ku.out.ext (Ext.trans Ew2.out (Ext.trans Ew3.out (Ext.trans Ew4.out (Ext.trans Ew7.out (Ext.trans Ew8.out NJ1.out)))))).2.2.2.2.2.2.2.1
  have xu8 := (Ku.out.ext (Ext.trans Ew2.out (Ext.trans Ew3.out (Ext.trans Ew4.out (Ext.trans Ew7.out (Ext.trans Ew8.out NJ1.out)))))).2.2.2.2.2.2.2.2
  go_upto_region 9 with (fail)
  clear zu xu0 xu1 xu2 xu3 xu4 xu5 xu6 xu7 xu8
  have kv := UBox.new w12 (w12.heap.size) rfl u A n c 40
  have rv : RowN (w12.alloc (.cells #[.int .i64 u.bus, .int .i64 u.mn, .slice A n c, .int .i64 u.up, .int .i64 u.down, .int .i64 u.start, .int .i64 u.idle, .int .i64 u.spin, .int .i64 u.on] 40)) w12.heap.size 9 := RowN.of_blk (Blk.new w12 40 #[.int .i64 u.bus, .int .i64 u.mn, .slice A n c, .int .i64 u.up, .int .i64 u.down, .int .i64 u.start, .int .i64 u.idle, .int .i64 u.spin, .int .i64 u.on])
  have hE : Ext w12 (w12.alloc (.cells #[.int .i64 u.bus, .int .i64 u.mn, .slice A n c, .int .i64 u.up, .int .i64 u.down, .int .i64 u.start, .int .i64 u.idle, .int .i64 u.spin, .int .i64 u.on] 40)) := Ext.al Ext.rfl' _
  generalize w12.alloc (.cells #[.int .i64 u.bus, .int .i64 u.mn, .slice A n c, .int .i64 u.up, .int .i64 u.down, .int .i64 u.start, .int .i64 u.idle, .int .i64 u.spin, .int .i64 u.on] 40) = w13 at *
  obtain ⟨gv, hgv⟩ : ∃ g, w12.heap.size = g := ⟨_, rfl⟩
  rw [hgv] at kv rv ⊢
  have HGV := Lib.hid hgv
  have KV := Lib.hid kv
  have RV := Lib.hid rv
  clear kv rv hgv
  have Ew13 := Lib.hid hE
  clear hE
  have HTV := Lib.hid (RV.out.there (o := 8) (k := 1) (by omega))
  have EV := Lib.hid Ew13.out
  have hjq : (j : Int) - 1 = (q1 : Int) := by omega
  have hq0 : (0 : Int) ≤ (q1 : Int) := by omega
  have hqn : (q1 : Int) < (k : Int) := by omega
  obtain ⟨bR, oR, hRR, -, hcR⟩ := HP.out.2 (by omega)
  have HRW := Lib.hid (hcR q1 hqk)
  clear hcR
  have HON : Hid (onOf plan j = if plan.getD q1 false then 1 else -1) := by unfold Hid onOf; rw [show j - 1 = q1 by omega]
  obtain ⟨bb, hbb⟩ : ∃ v, plan.getD q1 false = v := ⟨_, rfl⟩
  rw [hbb] at HRW HON
  clear hbb
  have HRR := Lib.hid hRR
  clear hRR
  cases bb
  · have HRR2 := HRR.out
    subst HRR2
    go_wp2_with (
        refine wpList_storeS rfl 3 _ _ rfl gv 8 (.int .i64 (-1)) rfl rfl rfl HTV.out (by kernel_rfl) rfl ?_
        intro wv hpv
        have KV2 : Hid (UBox wv gv (u.onAt (-1)) A n c) := KV.out.set8U hpv
        have RV2 : Hid (RowN wv gv 9) := RV.out.putVs hpv
        have EV3 := Lib.hid (hpv.touch.ext w12 EV.out (by rw [HGV.out]; exact Nat.le_refl _))
        have xrow := Ext.cellOf (Ext.trans (Ext.trans Ew1.out (Ext.trans Ew2.out (Ext.trans Ew3.out (Ext.trans Ew4.out (Ext.trans Ew7.out (Ext.trans Ew8.out NJ1.out)))))) EV3.out) HRW.out
        have zrow := World.block_lt_of_cell? _ _ xrow
        have HTV2 := Lib.hid (RV2.out.there (o := 8) (k := 1) (by omega))
        clear hpv)
    try simp only [Act.put]
    clear xrow zrow HTV2 RV2
    obtain ⟨son, hson⟩ : ∃ v : Int, -1 = v := ⟨_, rfl⟩
    have HSON : Hid (onOf plan j = son) := by unfold Hid; rw [HON.out, ← hson]; rfl
    rw [hson] at KV2
    clear hson
    clear hjq hq0 hqn HTV EV KV RV HRW
    rw [HSON.out] at HSP
    obtain ⟨v, hv⟩ : ∃ v, u.onAt son = v := ⟨_, rfl⟩
    have HSV : Hid (v.steps = u.steps) := by unfold Hid; rw [← hv]; rfl
    rw [hv] at KV2 HSP
    clear hv
    obtain ⟨A1, x1, x2, hA1⟩ := slice_loU 41 4 Try.underlying41 1 size_boolU (some ⟨bR, oR, none⟩) k dp j hjk hdp
    obtain ⟨A2, x3, x4, hA2⟩ := slice_loU 41 4 Try.underlying41 1 size_boolU R k dR j hjk hdR
    obtain ⟨A3, x5, x6, hA3⟩ := slice_loU 22 30 Try.underlying22 4 size_qU P k cp j hjk hcp
    have HP2 := Lib.hid (HP.out.slicedU hjk hdp hA1)
    have HR2 := Lib.hid (HR.out.slicedU hjk hdR hA2)
    have HG2 := Lib.hid (HG.out.slicedU hjk hcp hA3)
    clear hA1 hA2 hA3
    have HZC : Hid (Sz 8388674 (v.dayV (plan.drop j) (ran.drop j) (qs.drop j))) := (sz_dayV (K := 1048576) (fun i hi => by
      rw [getD_dropU]
      exact HG.out.sz (by omega) (j + i))).mono (by omega)
    refine wp_region_havS [14] [0, 1, 2, 3, 4, 5, 6, 7, 8, 9, 10, 11, 12, 13] [15, 16] (fun _ => .cells #[.bool false, .slice none 0 0, .bool false, .slice none 0 0] 30) (by kernel_rfl) (by kernel_rfl) ?_ ?_
    · intro f hf
      simp only [List.mem_cons, List.not_mem_nil, or_false] at hf
      rcases hf with rfl
      all_goals exact makes_q (by rfl) rfl
    have hE : Ext wv wv.drew := Ext.rfl'.drew
    generalize wv.drew = w14 at *
    have Ew14 := Lib.hid hE
    clear hE
    have fv0 := fun z : ExtX w14 [] => z.cell (p := ⟨gv, 0, none⟩) (KV2.out.ext Ew14.out).1 (by simp)
    have fv1 := fun z : ExtX w14 [] => z.cell (p := ⟨gv, 1, none⟩) (KV2.out.ext Ew14.out).2.1 (by simp)
    have fv2 := fun z : ExtX w14 [] => z.cell (p := ⟨gv, 2, none⟩) (KV2.out.ext Ew14.out).2.2.1 (by simp)
    have fv3 := fun z : ExtX w14 [] => z.cell (p := ⟨gv, 3, none⟩) (KV2.out.ext Ew14.out).2.2.2.1 (by simp)
    have fv4 := fun z : ExtX w14 [] => z.cell (p := ⟨gv, 4, none⟩) (KV2.out.ext Ew14.out).2.2.2.2.1 (by simp)
    have fv5 := fun z : ExtX w14 [] => z.cell (p := ⟨gv, 5, none⟩) (KV2.out.ext Ew14.out).2.2.2.2.2.1 (by simp)
    have fv6 := fun z : ExtX w14 [] => z.cell (p := ⟨gv, 6, none⟩) (KV2.out.ext Ew14.out).2.2.2.2.2.2.1 (by simp)
    have fv7 := fun z : ExtX w14 [] => z.cell (p := ⟨gv, 7, none⟩) (KV2.out.ext Ew14.out).2.2.2.2.2.2.2.1 (by simp)
    have fv8 := fun z : ExtX w14 [] => z.cell (p := ⟨gv, 8, none⟩) (KV2.out.ext Ew14.out).2.2.2.2.2.2.2.2 (by simp)
    intro w15 hE
    have Ew15 := Lib.hid hE
    clear hE
    repeat (refine havAt_still (by rfl) (by rfl) ?_; go_big_quiet_step (fail); refine wpQuiet_nil ?_)
    refine havAt_move (by rfl) (by rfl) (by kernel_rfl) ?_
    go_wp2_with fail
    refine (upcost_any v A n c A1 (k - j) (dp - j) (plan.drop j) A2 (k - j) (dR - j) (ran.drop j) A3 (k - j) (cp - j) (qs.drop j) w15 (by rw [HSV.out]; exact (HS.out.below (Ext.trans Ew1.out (Ext.trans Ew2.out (Ext.trans Ew3.out (Ext.trans Ew4.out (Ext.trans Ew7.out (Ext.trans Ew8.out (Ext.trans NJ1.out (Ext.trans EV3.out (Ext.trans Ew14.out Ew15.out))))))))))) hn (HP2.out.below (Ext.trans Ew1.out (Ext.trans Ew2.out (Ext.trans Ew3.out (Ext.trans Ew4.out (Ext.trans Ew7.out (Ext.trans Ew8.out (Ext.trans NJ1.out (Ext.trans EV3.out (Ext.trans Ew14.out Ew15.out)))))))))) (by unfold maxLen; omega) (HR2.out.below (Ext.trans Ew1.out (Ext.trans Ew2.out (Ext.trans Ew3.out (Ext.trans Ew4.out (Ext.trans Ew7.out (Ext.trans Ew8.out (Ext.trans NJ1.out (Ext.trans EV3.out (Ext.trans Ew14.out Ew15.out)))))))))) (by unfold maxLen; omega) (HG2.out.ext (Ext.trans Ew1.out (Ext.trans Ew2.out (Ext.trans Ew3.out (Ext.trans Ew4.out (Ext.trans Ew7.out (Ext.trans Ew8.out (Ext.trans NJ1.out (Ext.trans EV3.out (Ext.trans Ew14.out Ew15.out)))))))))) (by unfold maxLen; omega)).mono ?_
    rintro e w16 ⟨se, Ae, ne, ce, te, Be, me, de, rfl, hQ, hE⟩
    have Ew16 := Lib.hid hE
    clear hE
    rw [HSP.out.2.1]
    have Qe := Lib.hid hQ
    clear hQ
    go_wp2_with fail
    refine And.intro Ew16.out (fun w17 hE => ?_)
    have Ew17 := Lib.hid hE
    clear hE
    repeat (refine havAt_still (by rfl) (by rfl) ?_; go_big_quiet_step (fail); refine wpQuiet_nil ?_)
    refine havAt_end ?_
    intro gs hgs hne
    have hpe := hgs 14 (by simp)
    change IdxAt _ _ _ _ _ _ (Act.put _ (some 17) (.pointer (some ⟨gs 14, 0, none⟩))) _
    generalize gs 14 = ge at *
    clear hgs hne
    simp only [Act.put, List.setIfInBounds_toArray, List.set_cons_succ, List.set_cons_zero]
    have Pe := Lib.hid hpe
    have Ke := Lib.hid (Cell4.of_blk hpe.2.1)
    clear hpe
    repeat (refine idxAt_still (by rfl) (by rfl) ?_; go_big_quiet_step (fail); refine wpQuiet_nil ?_)
    obtain ⟨⟨o0, o1, o2, o3⟩, ⟨q0, q1, q2, q3⟩, ol⟩ := Ke.out
    refine idxAt_move (by rfl) (by rfl) (by kernel_rfl) ?_
    go_wp2_with fail
    refine And.intro (inX_put (p := ⟨ge, 3, none⟩) (inX_put (p := ⟨ge, 2, none⟩) (inX_put (p := ⟨ge, 1, none⟩) (inX_put (p := ⟨ge, 0, none⟩) (inX_of_ext _ (Ext.trans Ew15.out (Ext.trans Ew16.out Ew17.out))) (.inr Pe.out.1) _) (.inr Pe.out.1) _) (.inr Pe.out.1) _) (.inr Pe.out.1) _) ?_
    clear o0 o1 o2 o3 q0 q1 q2 q3 ol
    have Ke_2 := Lib.hid (Ke.out.put4 (.bool se) (.slice Ae ne ce) (.bool te) (.slice Be me de))
    have NJ2 := Lib.hid (ext_put4 (Ext.trans Ew15.out (Ext.trans Ew16.out Ew17.out)) (g := ge) Pe.out.1 0 (.bool se) (.slice Ae ne ce) (.bool te) (.slice Be me de))
    have NZ2 : Hid (w17.heap.size ≤ (put4 w17 (ge) 0 (.bool se) (.slice Ae ne ce) (.bool te) (.slice Be me de)).heap.size) := by unfold Hid; rw [put4_size]; exact Nat.le_refl _
    have Qe_2 := Lib.hid ((Qe.out.ext Ew17.out).put4A (g := ge) (Qe.out.span (Pe.out.2.2 (w15.heap.size, w16.heap.size) (by simp))) 0 (.bool se) (.slice Ae ne ce) (.bool te) (.slice Be me de))
    unfold put4 at Ke_2 NJ2 NZ2 Qe_2
    simp only [Nat.zero_add] at Ke_2 NJ2 NZ2 Qe_2
    generalize ((((w17.setCell ⟨ge, 0, none⟩ (.bool se)).setCell ⟨ge, 1, none⟩ (.slice Ae ne ce)).setCell ⟨ge, 2, none⟩ (.bool te)).setCell ⟨ge, 3, none⟩ (.slice Be me de)) = w18 at *
    repeat (refine idxAt_still (by rfl) (by rfl) ?_; go_big_quiet_step (fail); refine wpQuiet_nil ?_)
    refine idxAt_nil ?_
    clear fv0 fv1 fv2 fv3 fv4 fv5 fv6 fv7 fv8
    clear x1 x2 x3 x4 x5 x6
    have hb0 : ((0 : Int) != 0) = false := by decide
    go_wp2_with fail
    refine wp_region_lexSW (C := InX w18.drew []) (by kernel_rfl) (by kernel_rfl) (inX_self _ _) ?_
    have hE : Ext w18 w18.drew := Ext.rfl'.drew
    generalize w18.drew = w19 at *
    have Ew19 := Lib.hid hE
    clear hE
    have fb0 := fun z : ExtX w19 [] => z.cell (p := ⟨gb, 0, none⟩) (Kb_1.out.ext (Ext.trans EV3.out (Ext.trans Ew14.out (Ext.trans NJ2.out Ew19.out)))).1.1 (by simp)
    have fb1 := fun z : ExtX w19 [] => z.cell (p := ⟨gb, 1, none⟩) (Kb_1.out.ext (Ext.trans EV3.out (Ext.trans Ew14.out (Ext.trans NJ2.out Ew19.out)))).1.2.1 (by simp)
    have fb2 := fun z : ExtX w19 [] => z.cell (p := ⟨gb, 2, none⟩) (Kb_1.out.ext (Ext.trans EV3.out (Ext.trans Ew14.out (Ext.trans NJ2.out Ew19.out)))).1.2.2.1 (by simp)
    have fb3 := fun z : ExtX w19 [] => z.cell (p := ⟨gb, 3, none⟩) (Kb_1.out.ext (Ext.trans EV3.out (Ext.trans Ew14.out (Ext.trans NJ2.out Ew19.out)))).1.2.2.2 (by simp)
    have fe0 := fun z : ExtX w19 [] => z.cell (p := ⟨ge, 0, none⟩) (Ke_2.out.ext Ew19.out).1.1 (by simp)
    have fe1 := fun z : ExtX w19 [] => z.cell (p := ⟨ge, 1, none⟩) (Ke_2.out.ext Ew19.out).1.2.1 (by simp)
    have fe2 := fun z : ExtX w19 [] => z.cell (p := ⟨ge, 2, none⟩) (Ke_2.out.ext Ew19.out).1.2.2.1 (by simp)
    have fe3 := fun z : ExtX w19 [] => z.cell (p := ⟨ge, 3, none⟩) (Ke_2.out.ext Ew19.out).1.2.2.2 (by simp)
    have fa0 := fun z : ExtX w19 [] => z.cell (p := ⟨w4.heap.size, 0, none⟩) (Ka.out.ext (Ext.trans Ew8.out (Ext.trans NJ1.out (Ext.trans EV3.out (Ext.trans Ew14.out (Ext.trans NJ2.out Ew19.out)))))).1.1 (by simp)
    have fa1 := fun z : ExtX w19 [] => z.cell (p := ⟨w4.heap.size, 1, none⟩) (Ka.out.ext (Ext.trans Ew8.out (Ext.trans NJ1.out (Ext.trans EV3.out (Ext.trans Ew14.out (Ext.trans NJ2.out Ew19.out)))))).1.2.1 (by simp)
    have fa2 := fun z : ExtX w19 [] => z.cell (p := ⟨w4.heap.size, 2, none⟩) (Ka.out.ext (Ext.trans Ew8.out (Ext.trans NJ1.out (Ext.trans EV3.out (Ext.trans Ew14.out (Ext.trans NJ2.out Ew19.out)))))).1.2.2.1 (by simp)
    have fa3 := fun z : ExtX w19 [] => z.cell (p := ⟨w4.heap.size, 3, none⟩) (Ka.out.ext (Ext.trans Ew8.out (Ext.trans NJ1.out (Ext.trans EV3.out (Ext.trans Ew14.out (Ext.trans NJ2.out Ew19.out)))))).1.2.2.2 (by simp)
    repeat (refine lexAt_still (by rfl) ?_; go_big_quiet_step (fail); refine wpQuiet_nil ?_)
    refine lexAt_move (by rfl) (by kernel_rfl) ?_
    go_wp2_with fail
    refine (qadd_any sb Ab nb cb tb Bb mb db _ se Ae ne ce te Be me de _ w19 ((Qb_1.out.ext (Ext.trans EV3.out (Ext.trans Ew14.out (Ext.trans NJ2.out Ew19.out)))).arg HZB.out (by omega)) ((Qe_2.out.ext Ew19.out).arg HZC.out (by omega))).mono ?_
    rintro e w20 ⟨ss, As, ns, cs, ts, Bs, ms, ds, rfl, hQ, hE⟩
    have Ew20 := Lib.hid hE
    clear hE
    have Qs := Lib.hid hQ
    clear hQ
    go_wp2_with fail
    refine And.intro (inX_of_ext _ Ew20.out) ?_
    repeat (refine lexAt_still (by rfl) ?_; go_big_quiet_step (fail); refine wpQuiet_nil ?_)
    refine lexAt_move (by rfl) (by kernel_rfl) ?_
    go_wp2_with fail
    refine (qequal_any ss As ns cs ts Bs ms ds _ sa Aa na ca ta Ba ma da _ w20 (Qs.out.arg (HZB.out.add HZC.out) (by omega)) ((Qa.out.ext (Ext.trans Ew7.out (Ext.trans Ew8.out (Ext.trans NJ1.out (Ext.trans EV3.out (Ext.trans Ew14.out (Ext.trans NJ2.out (Ext.trans Ew19.out Ew20.out)))))))).arg HZA.out (by omega))).mono ?_
    rintro e w21 ⟨rfl, hE⟩
    have Ew21 := Lib.hid hE
    clear hE
    rw [decide_eq_true HSP.out.2.2]
    go_wp2_with fail
    refine And.intro (inX_of_ext _ (Ext.trans Ew20.out Ew21.out)) ?_
    repeat (refine lexAt_still (by rfl) ?_; go_big_quiet_step (fail); refine wpQuiet_nil ?_)
    refine lexAt_nil ?_
    clear fb0 fb1 fb2 fb3 fe0 fe1 fe2 fe3 fa0 fa1 fa2 fa3
    go_wp2_with fail
    have hE : Ext w21 w21.drew := Ext.rfl'.drew
    refine wp_region_freeS (fun i => (([(.is (u.val A n c)), (.is (.int .i64 (j : Int))), (.bools j), (.is (.int .i64 (j : Int))), (.bools j), (.is (.int .i64 (j : Int))), (.zeros j), .tup, .tup, .agg, (.is (.int .i64 0)), (.cell w21.drew.heap.size), (.is undef), (.is (.int .i64 0))] : List ZK).getD i (.is undef)).holds) ZStored 12 19 127 [10, 13] (by kernel_rfl) (by kernel_rfl) (fun _ _ _ _ h hE => ZK.mono h hE) ?_ ?_ ?_ ?_
    all_goals generalize w21.drew = w22 at *
    all_goals have Ew22 := Lib.hid hE
    all_goals clear hE
    · intro i hi hne
      match i, hi, hne with
      | 0, _, _ =>
        refine ⟨fun o ho x wx hE hF hd => ?_⟩
        obtain rfl := Option.some.inj ho
        clear ho
        have ef5 : x 5 = (.pointer (some ⟨w.heap.size, 0, none⟩)) := hF 5 (by decide +kernel)
        clear hd hF
        have HX := Lib.hid hE
        clear hE
        rw [show actOf _ x = (⟨#[x 0, x 1, x 2, x 3, x 4, x 5, x 6, x 7, x 8, x 9, x 10, x 11, x 12, x 13, x 14, x 15, x 16, x 17, x 18, x 19, x 20, x 21, x 22, x 23, x 24, x 25, x 26, x 27, x 28, x 29, x 30, x 31, x 32, x 33, x 34, x 35, x 36, x 37, x 38, x 39, x 40, x 41, x 42, x 43, x 44, x 45, x 46, x 47, x 48, x 49, x 50, x 51, x 52, x 53, x 54, x 55, x 56, x 57, x 58, x 59, x 60, x 61, x 62, x 63, x 64, x 65, x 66, x 67, x 68, x 69, x 70, x 71, x 72, x 73, x 74, x 75, x 76, x 77, x 78, x 79, x 80, x 81, x 82, x 83, x 84, x 85, x 86, x 87, x 88, x 89, x 90, x 91, x 92, x 93, x 94, x 95, x 96, x 97, x 98, x 99, x 100, x 101, x 102, x 103, x 104, x 105, x 106, x 107, x 108, x 109, x 110, x 111, x 112, x 113, x 114, x 115, x 116, x 117, x 118, x 119, x 120, x 121, x 122, x 123, x 124, x 125, x 126, x 127, x 128, x 129, x 130, x 131, x 132, x 133, x 134], []⟩ : Act) from rfl]
        rw [ef5]
        clear ef5
        have zu := World.block_lt_of_cell? _ _ (Ku.out.ext (Ext.trans Ew2.out (Ext.trans Ew3.out (Ext.trans Ew4.out (Ext.trans Ew7.out (Ext.trans Ew8.out (Ext.trans NJ1.out (Ext.trans EV3.out (Ext.trans Ew14.out (Ext.trans NJ2.out (Ext.trans Ew19.out (Ext.trans Ew20.out (Ext.trans Ew21.out (Ext.trans Ew22.out HX.out)))))))))))))).1
        have xu0 := (Ku.out.ext (Ext.trans Ew2.out (Ext.trans Ew3.out (Ext.trans Ew4.out (Ext.trans Ew7.out (Ext.trans Ew8.out (Ext.trans NJ1.out (Ext.trans EV3.out (Ext.trans Ew14.out (Ext.trans NJ2.out (Ext.trans Ew19.out (Ext.trans Ew20.out (Ext.trans Ew21.out (Ext.trans Ew22.out HX.out)))))))))))))).1
        have xu1 := (Ku.out.ext (Ext.trans Ew2.out (Ext.trans Ew3.out (Ext.trans Ew4.out (Ext.trans Ew7.out (Ext.trans Ew8.out (Ext.trans NJ1.out (Ext.trans EV3.out (Ext.trans Ew14.out (Ext.trans NJ2.out (Ext.trans Ew19.out (Ext.trans Ew20.out (Ext.trans Ew21.out (Ext.trans Ew22.out HX.out)))))))))))))).2.1
        have xu2 := (Ku.out.ext (Ext.trans Ew2.out (Ext.trans Ew3.out (Ext.trans Ew4.out (Ext.trans Ew7.out (Ext.trans Ew8.out (Ext.trans NJ1.out (Ext.trans EV3.out (Ext.trans Ew14.out (Ext.trans NJ2.out (Ext.trans Ew19.out (Ext.trans Ew20.out (Ext.trans Ew21.out (Ext.trans Ew22.out HX.out)))))))))))))).2.2.1
        have xu3 := (Ku.out.ext (Ext.trans Ew2.out (Ext.trans Ew3.out (Ext.trans Ew4.out (Ext.trans Ew7.out (Ext.trans Ew8.out (Ext.trans NJ1.out (Ext.trans EV3.out (Ext.trans Ew14.out (Ext.trans NJ2.out (Ext.trans Ew19.out (Ext.trans Ew20.out (Ext.trans Ew21.out (Ext.trans Ew22.out HX.out)))))))))))))).2.2.2.1
        have xu4 := (Ku.out.ext (Ext.trans Ew2.out (Ext.trans Ew3.out (Ext.trans Ew4.out (Ext.trans Ew7.out (Ext.trans Ew8.out (Ext.trans NJ1.out (Ext.trans EV3.out (Ext.trans Ew14.out (Ext.trans NJ2.out (Ext.trans Ew19.out (Ext.trans Ew20.out (Ext.trans Ew21.out (Ext.trans Ew22.out HX.out)))))))))))))).2.2.2.2.1
        have xu5 := (Ku.out.ext (Ext.trans Ew2.out (Ext.trans Ew3.out (Ext.trans Ew4.out (Ext.trans Ew7.out (Ext.trans Ew8.out (Ext.trans NJ1.out (Ext.trans EV3.out (Ext.trans Ew14.out (Ext.trans NJ2.out (Ext.trans Ew19.out (Ext.trans Ew20.out (Ext.trans Ew21.out (Ext.trans Ew22.out HX.out)))))))))))))).2.2.2.2.2.1
        have xu6 := (Ku.out.ext (Ext.trans Ew2.out (Ext.trans Ew3.out (Ext.trans Ew4.out (Ext.trans Ew7.out (Ext.trans Ew8.out (Ext.trans NJ1.out (Ext.trans EV3.out (Ext.trans Ew14.out (Ext.trans NJ2.out (Ext.trans Ew19.out (Ext.trans Ew20.out (Ext.trans Ew21.out (Ext.trans Ew22.out HX.out)))))))))))))).2.2.2.2.2.2.1
        have xu7 := (Ku.out.ext (Ext.trans Ew2.out (Ext.trans Ew3.out (Ext.trans Ew4.out (Ext.trans Ew7.out (Ext.trans Ew8.out (Ext.trans NJ1.out (Ext.trans EV3.out (Ext.trans Ew14.out (Ext.trans NJ2.out (Ext.trans Ew19.out (Ext.trans Ew20.out (Ext.trans Ew21.out (Ext.trans Ew22.out HX.out)))))))))))))).2.2.2.2.2.2.2.1
        have xu8 := (Ku.out.ext (Ext.trans Ew2.out (Ext.trans Ew3.out (Ext.trans Ew4.out (Ext.trans Ew7.out (Ext.trans Ew8.out (Ext.trans NJ1.out (Ext.trans EV3.out (Ext.trans Ew14.out (Ext.trans NJ2.out (Ext.trans Ew19.out (Ext.trans Ew20.out (Ext.trans Ew21.out (Ext.trans Ew22.out HX.out)))))))))))))).2.2.2.2.2.2.2.2
        go_wp2_with fail
        exact ⟨(u.val A n c), rfl, Ext.rfl', rfl⟩
      | 1, _, _ =>
        refine ⟨fun o ho x wx hE hF hd => ?_⟩
        obtain rfl := Option.some.inj ho
        clear ho
        have ef13 : x 13 = (.int .i64 (j : Int)) := hF 13 (by decide +kernel)
        clear hd hF
        have HX := Lib.hid hE
        clear hE
        rw [show actOf _ x = (⟨#[x 0, x 1, x 2, x 3, x 4, x 5, x 6, x 7, x 8, x 9, x 10, x 11, x 12, x 13, x 14, x 15, x 16, x 17, x 18, x 19, x 20, x 21, x 22, x 23, x 24, x 25, x 26, x 27, x 28, x 29, x 30, x 31, x 32, x 33, x 34, x 35, x 36, x 37, x 38, x 39, x 40, x 41, x 42, x 43, x 44, x 45, x 46, x 47, x 48, x 49, x 50, x 51, x 52, x 53, x 54, x 55, x 56, x 57, x 58, x 59, x 60, x 61, x 62, x 63, x 64, x 65, x 66, x 67, x 68, x 69, x 70, x 71, x 72, x 73, x 74, x 75, x 76, x 77, x 78, x 79, x 80, x 81, x 82, x 83, x 84, x 85, x 86, x 87, x 88, x 89, x 90, x 91, x 92, x 93, x 94, x 95, x 96, x 97, x 98, x 99, x 100, x 101, x 102, x 103, x 104, x 105, x 106, x 107, x 108, x 109, x 110, x 111, x 112, x 113, x 114, x 115, x 116, x 117, x 118, x 119, x 120, x 121, x 122, x 123, x 124, x 125, x 126, x 127, x 128, x 129, x 130, x 131, x 132, x 133, x 134], []⟩ : Act) from rfl]
        rw [ef13]
        clear ef13
        go_wp2_with fail
        exact ⟨(.int .i64 (j : Int)), rfl, Ext.rfl', rfl⟩
      | 2, _, _ =>
        refine ⟨fun o ho x wx hE hF hd => ?_⟩
        obtain rfl := Option.some.inj ho
        clear ho
        have ed120 : x 120 = (.int .i64 (j : Int)) := hd 1 (by decide +kernel) _ _ rfl rfl
        clear hd hF
        have HX := Lib.hid hE
        clear hE
        rw [show actOf _ x = (⟨#[x 0, x 1, x 2, x 3, x 4, x 5, x 6, x 7, x 8, x 9, x 10, x 11, x 12, x 13, x 14, x 15, x 16, x 17, x 18, x 19, x 20, x 21, x 22, x 23, x 24, x 25, x 26, x 27, x 28, x 29, x 30, x 31, x 32, x 33, x 34, x 35, x 36, x 37, x 38, x 39, x 40, x 41, x 42, x 43, x 44, x 45, x 46, x 47, x 48, x 49, x 50, x 51, x 52, x 53, x 54, x 55, x 56, x 57, x 58, x 59, x 60, x 61, x 62, x 63, x 64, x 65, x 66, x 67, x 68, x 69, x 70, x 71, x 72, x 73, x 74, x 75, x 76, x 77, x 78, x 79, x 80, x 81, x 82, x 83, x 84, x 85, x 86, x 87, x 88, x 89, x 90, x 91, x 92, x 93, x 94, x 95, x 96, x 97, x 98, x 99, x 100, x 101, x 102, x 103, x 104, x 105, x 106, x 107, x 108, x 109, x 110, x 111, x 112, x 113, x 114, x 115, x 116, x 117, x 118, x 119, x 120, x 121, x 122, x 123, x 124, x 125, x 126, x 127, x 128, x 129, x 130, x 131, x 132, x 133, x 134], []⟩ : Act) from rfl]
        rw [ed120]
        clear ed120
        go_wp2_with (
          refine wpList_makeV rfl 41 4 _ _ rfl (.bool false) 1 1 Try.underlying41 (by kernel_rfl) (j : Int) j rfl rfl rfl (by omega) (by omega) ?_
          intro wM hO
          have HO := Lib.hid hO
          clear hO)
        have HO2 := HO.out
        subst HO2
        exact ⟨_, rfl, Ext.al Ext.rfl' _, _, rfl, bools_madeU _ j _⟩
      | 3, _, _ =>
        refine ⟨fun o ho x wx hE hF hd => ?_⟩
        obtain rfl := Option.some.inj ho
        clear ho
        have ef13 : x 13 = (.int .i64 (j : Int)) := hF 13 (by decide +kernel)
        clear hd hF
        have HX := Lib.hid hE
        clear hE
        rw [show actOf _ x = (⟨#[x 0, x 1, x 2, x 3, x 4, x 5, x 6, x 7, x 8, x 9, x 10, x 11, x 12, x 13, x 14, x 15, x 16, x 17, x 18, x 19, x 20, x 21, x 22, x 23, x 24, x 25, x 26, x 27, x 28, x 29, x 30, x 31, x 32, x 33, x 34, x 35, x 36, x 37, x 38, x 39, x 40, x 41, x 42, x 43, x 44, x 45, x 46, x 47, x 48, x 49, x 50, x 51, x 52, x 53, x 54, x 55, x 56, x 57, x 58, x 59, x 60, x 61, x 62, x 63, x 64, x 65, x 66, x 67, x 68, x 69, x 70, x 71, x 72, x 73, x 74, x 75, x 76, x 77, x 78, x 79, x 80, x 81, x 82, x 83, x 84, x 85, x 86, x 87, x 88, x 89, x 90, x 91, x 92, x 93, x 94, x 95, x 96, x 97, x 98, x 99, x 100, x 101, x 102, x 103, x 104, x 105, x 106, x 107, x 108, x 109, x 110, x 111, x 112, x 113, x 114, x 115, x 116, x 117, x 118, x 119, x 120, x 121, x 122, x 123, x 124, x 125, x 126, x 127, x 128, x 129, x 130, x 131, x 132, x 133, x 134], []⟩ : Act) from rfl]
        rw [ef13]
        clear ef13
        go_wp2_with fail
        exact ⟨(.int .i64 (j : Int)), rfl, Ext.rfl', rfl⟩
      | 4, _, _ =>
        refine ⟨fun o ho x wx hE hF hd => ?_⟩
        obtain rfl := Option.some.inj ho
        clear ho
        have ed122 : x 122 = (.int .i64 (j : Int)) := hd 3 (by decide +kernel) _ _ rfl rfl
        clear hd hF
        have HX := Lib.hid hE
        clear hE
        rw [show actOf _ x = (⟨#[x 0, x 1, x 2, x 3, x 4, x 5, x 6, x 7, x 8, x 9, x 10, x 11, x 12, x 13, x 14, x 15, x 16, x 17, x 18, x 19, x 20, x 21, x 22, x 23, x 24, x 25, x 26, x 27, x 28, x 29, x 30, x 31, x 32, x 33, x 34, x 35, x 36, x 37, x 38, x 39, x 40, x 41, x 42, x 43, x 44, x 45, x 46, x 47, x 48, x 49, x 50, x 51, x 52, x 53, x 54, x 55, x 56, x 57, x 58, x 59, x 60, x 61, x 62, x 63, x 64, x 65, x 66, x 67, x 68, x 69, x 70, x 71, x 72, x 73, x 74, x 75, x 76, x 77, x 78, x 79, x 80, x 81, x 82, x 83, x 84, x 85, x 86, x 87, x 88, x 89, x 90, x 91, x 92, x 93, x 94, x 95, x 96, x 97, x 98, x 99, x 100, x 101, x 102, x 103, x 104, x 105, x 106, x 107, x 108, x 109, x 110, x 111, x 112, x 113, x 114, x 115, x 116, x 117, x 118, x 119, x 120, x 121, x 122, x 123, x 124, x 125, x 126, x 127, x 128, x 129, x 130, x 131, x 132, x 133, x 134], []⟩ : Act) from rfl]
        rw [ed122]
        clear ed122
        go_wp2_with (
          refine wpList_makeV rfl 41 4 _ _ rfl (.bool false) 1 1 Try.underlying41 (by kernel_rfl) (j : Int) j rfl rfl rfl (by omega) (by omega) ?_
          intro wM hO
          have HO := Lib.hid hO
          clear hO)
        have HO2 := HO.out
        subst HO2
        exact ⟨_, rfl, Ext.al Ext.rfl' _, _, rfl, bools_madeU _ j _⟩
      | 5, _, _ =>
        refine ⟨fun o ho x wx hE hF hd => ?_⟩
        obtain rfl := Option.some.inj ho
        clear ho
        have ef13 : x 13 = (.int .i64 (j : Int)) := hF 13 (by decide +kernel)
        clear hd hF
        have HX := Lib.hid hE
        clear hE
        rw [show actOf _ x = (⟨#[x 0, x 1, x 2, x 3, x 4, x 5, x 6, x 7, x 8, x 9, x 10, x 11, x 12, x 13, x 14, x 15, x 16, x 17, x 18, x 19, x 20, x 21, x 22, x 23, x 24, x 25, x 26, x 27, x 28, x 29, x 30, x 31, x 32, x 33, x 34, x 35, x 36, x 37, x 38, x 39, x 40, x 41, x 42, x 43, x 44, x 45, x 46, x 47, x 48, x 49, x 50, x 51, x 52, x 53, x 54, x 55, x 56, x 57, x 58, x 59, x 60, x 61, x 62, x 63, x 64, x 65, x 66, x 67, x 68, x 69, x 70, x 71, x 72, x 73, x 74, x 75, x 76, x 77, x 78, x 79, x 80, x 81, x 82, x 83, x 84, x 85, x 86, x 87, x 88, x 89, x 90, x 91, x 92, x 93, x 94, x 95, x 96, x 97, x 98, x 99, x 100, x 101, x 102, x 103, x 104, x 105, x 106, x 107, x 108, x 109, x 110, x 111, x 112, x 113, x 114, x 115, x 116, x 117, x 118, x 119, x 120, x 121, x 122, x 123, x 124, x 125, x 126, x 127, x 128, x 129, x 130, x 131, x 132, x 133, x 134], []⟩ : Act) from rfl]
        rw [ef13]
        clear ef13
        go_wp2_with fail
        exact ⟨(.int .i64 (j : Int)), rfl, Ext.rfl', rfl⟩
      | 6, _, _ =>
        refine ⟨fun o ho x wx hE hF hd => ?_⟩
        obtain rfl := Option.some.inj ho
        clear ho
        have ed124 : x 124 = (.int .i64 (j : Int)) := hd 5 (by decide +kernel) _ _ rfl rfl
        clear hd hF
        have HX := Lib.hid hE
        clear hE
        rw [show actOf _ x = (⟨#[x 0, x 1, x 2, x 3, x 4, x 5, x 6, x 7, x 8, x 9, x 10, x 11, x 12, x 13, x 14, x 15, x 16, x 17, x 18, x 19, x 20, x 21, x 22, x 23, x 24, x 25, x 26, x 27, x 28, x 29, x 30, x 31, x 32, x 33, x 34, x 35, x 36, x 37, x 38, x 39, x 40, x 41, x 42, x 43, x 44, x 45, x 46, x 47, x 48, x 49, x 50, x 51, x 52, x 53, x 54, x 55, x 56, x 57, x 58, x 59, x 60, x 61, x 62, x 63, x 64, x 65, x 66, x 67, x 68, x 69, x 70, x 71, x 72, x 73, x 74, x 75, x 76, x 77, x 78, x 79, x 80, x 81, x 82, x 83, x 84, x 85, x 86, x 87, x 88, x 89, x 90, x 91, x 92, x 93, x 94, x 95, x 96, x 97, x 98, x 99, x 100, x 101, x 102, x 103, x 104, x 105, x 106, x 107, x 108, x 109, x 110, x 111, x 112, x 113, x 114, x 115, x 116, x 117, x 118, x 119, x 120, x 121, x 122, x 123, x 124, x 125, x 126, x 127, x 128, x 129, x 130, x 131, x 132, x 133, x 134], []⟩ : Act) from rfl]
        rw [ed124]
        clear ed124
        go_wp2_with (
          refine wpList_makeV rfl 22 30 _ _ rfl (.agg #[.bool false, .slice none 0 0, .bool false, .slice none 0 0]) 4 64 Try.underlying22 (by kernel_rfl) (j : Int) j rfl rfl rfl (by omega) (by omega) ?_
          intro wM hO
          have HO := Lib.hid hO
          clear hO)
        have HO2 := HO.out
        subst HO2
        exact ⟨_, rfl, Ext.al Ext.rfl' _, _, rfl, (parts_zero _ 0 j _).qsK (by simp) (fun i hi => by simp [List.getD, hi]) (fun i hi => by rw [show (List.replicate j (0 : Rat)).getD i 0 = 0 by simp [List.getD, hi]]; exact sz_zero.mono (by omega))⟩
      | 7, _, _ =>
        refine ⟨fun o ho x wx hE hF hd => ?_⟩
        obtain rfl := Option.some.inj ho
        clear ho
        have ed119 : x 119 = (u.val A n c) := hd 0 (by decide +kernel) _ _ rfl rfl
        obtain ⟨ga, eq121, ha⟩ : ((.bools j) : ZK).holds (x 121) wx := hd 2 (by decide +kernel) _ _ rfl rfl
        obtain ⟨gb, eq123, hb⟩ : ((.bools j) : ZK).holds (x 123) wx := hd 4 (by decide +kernel) _ _ rfl rfl
        obtain ⟨gc, eq125, hc⟩ : ((.zeros j) : ZK).holds (x 125) wx := hd 6 (by decide +kernel) _ _ rfl rfl
        clear hd hF
        have HX := Lib.hid hE
        clear hE
        rw [show actOf _ x = (⟨#[x 0, x 1, x 2, x 3, x 4, x 5, x 6, x 7, x 8, x 9, x 10, x 11, x 12, x 13, x 14, x 15, x 16, x 17, x 18, x 19, x 20, x 21, x 22, x 23, x 24, x 25, x 26, x 27, x 28, x 29, x 30, x 31, x 32, x 33, x 34, x 35, x 36, x 37, x 38, x 39, x 40, x 41, x 42, x 43, x 44, x 45, x 46, x 47, x 48, x 49, x 50, x 51, x 52, x 53, x 54, x 55, x 56, x 57, x 58, x 59, x 60, x 61, x 62, x 63, x 64, x 65, x 66, x 67, x 68, x 69, x 70, x 71, x 72, x 73, x 74, x 75, x 76, x 77, x 78, x 79, x 80, x 81, x 82, x 83, x 84, x 85, x 86, x 87, x 88, x 89, x 90, x 91, x 92, x 93, x 94, x 95, x 96, x 97, x 98, x 99, x 100, x 101, x 102, x 103, x 104, x 105, x 106, x 107, x 108, x 109, x 110, x 111, x 112, x 113, x 114, x 115, x 116, x 117, x 118, x 119, x 120, x 121, x 122, x 123, x 124, x 125, x 126, x 127, x 128, x 129, x 130, x 131, x 132, x 133, x 134], []⟩ : Act) from rfl]
        rw [ed119, eq121, eq123, eq125]
        clear ed119 eq121 eq123 eq125
        have HA := Lib.hid (And.intro ha (And.intro hb hc))
        clear ha hb hc
        go_wp2_with fail
        refine (upcost_any u A n c (some ⟨ga, 0, none⟩) j j (List.replicate j false) (some ⟨gb, 0, none⟩) j j (List.replicate j false) (some ⟨gc, 0, none⟩) j j (List.replicate j 0) wx (HS.out.below (Ext.trans Ew1.out (Ext.trans Ew2.out (Ext.trans Ew3.out (Ext.trans Ew4.out (Ext.trans Ew7.out (Ext.trans Ew8.out (Ext.trans NJ1.out (Ext.trans EV3.out (Ext.trans Ew14.out (Ext.trans NJ2.out (Ext.trans Ew19.out (Ext.trans Ew20.out (Ext.trans Ew21.out (Ext.trans Ew22.out HX.out))))))))))))))) hn HA.out.1 (by unfold maxLen; omega) HA.out.2.1 (by unfold maxLen; omega) HA.out.2.2 (by unfold maxLen; omega)).mono ?_
        rintro e wy ⟨sf, Af, nf, cf, tf, Bf, mf, df, rfl, hQ, hE⟩
        have hoff := day_off HOK.out.1 (k := j) (by omega)
        rw [hoff.2] at hQ
        obtain ⟨rfl, rfl, rfl, rfl, h5, h6⟩ := qcan_zero_len hQ
        rw [hoff.1]
        have H56 := Lib.hid (And.intro h5 h6)
        clear hQ hoff h5 h6
        go_wp2_with fail
        exact ⟨_, rfl, hE, Af, cf, Bf, df, rfl, H56.out.1, H56.out.2⟩
      | 8, _, _ =>
        refine ⟨fun o ho x wx hE hF hd => ?_⟩
        obtain rfl := Option.some.inj ho
        clear ho
        obtain ⟨Af, cf, Bf, df, eq126, h5, h6⟩ : (.tup : ZK).holds (x 126) wx := hd 7 (by decide +kernel) _ _ rfl rfl
        clear hd hF
        have HX := Lib.hid hE
        clear hE
        rw [show actOf _ x = (⟨#[x 0, x 1, x 2, x 3, x 4, x 5, x 6, x 7, x 8, x 9, x 10, x 11, x 12, x 13, x 14, x 15, x 16, x 17, x 18, x 19, x 20, x 21, x 22, x 23, x 24, x 25, x 26, x 27, x 28, x 29, x 30, x 31, x 32, x 33, x 34, x 35, x 36, x 37, x 38, x 39, x 40, x 41, x 42, x 43, x 44, x 45, x 46, x 47, x 48, x 49, x 50, x 51, x 52, x 53, x 54, x 55, x 56, x 57, x 58, x 59, x 60, x 61, x 62, x 63, x 64, x 65, x 66, x 67, x 68, x 69, x 70, x 71, x 72, x 73, x 74, x 75, x 76, x 77, x 78, x 79, x 80, x 81, x 82, x 83, x 84, x 85, x 86, x 87, x 88, x 89, x 90, x 91, x 92, x 93, x 94, x 95, x 96, x 97, x 98, x 99, x 100, x 101, x 102, x 103, x 104, x 105, x 106, x 107, x 108, x 109, x 110, x 111, x 112, x 113, x 114, x 115, x 116, x 117, x 118, x 119, x 120, x 121, x 122, x 123, x 124, x 125, x 126, x 127, x 128, x 129, x 130, x 131, x 132, x 133, x 134], []⟩ : Act) from rfl]
        rw [eq126]
        clear eq126
        go_wp2_with fail
        exact ⟨_, rfl, Ext.rfl', Af, cf, Bf, df, rfl, h5, h6⟩
      | 9, _, _ =>
        refine ⟨fun o ho x wx hE hF hd => ?_⟩
        obtain rfl := Option.some.inj ho
        clear ho
        obtain ⟨Af, cf, Bf, df, eq118, h5, h6⟩ : (.tup : ZK).holds (x 118) wx := hd 8 (by decide +kernel) _ _ rfl rfl
        clear hd hF
        have HX := Lib.hid hE
        clear hE
        rw [show actOf _ x = (⟨#[x 0, x 1, x 2, x 3, x 4, x 5, x 6, x 7, x 8, x 9, x 10, x 11, x 12, x 13, x 14, x 15, x 16, x 17, x 18, x 19, x 20, x 21, x 22, x 23, x 24, x 25, x 26, x 27, x 28, x 29, x 30, x 31, x 32, x 33, x 34, x 35, x 36, x 37, x 38, x 39, x 40, x 41, x 42, x 43, x 44, x 45, x 46, x 47, x 48, x 49, x 50, x 51, x 52, x 53, x 54, x 55, x 56, x 57, x 58, x 59, x 60, x 61, x 62, x 63, x 64, x 65, x 66, x 67, x 68, x 69, x 70, x 71, x 72, x 73, x 74, x 75, x 76, x 77, x 78, x 79, x 80, x 81, x 82, x 83, x 84, x 85, x 86, x 87, x 88, x 89, x 90, x 91, x 92, x 93, x 94, x 95, x 96, x 97, x 98, x 99, x 100, x 101, x 102, x 103, x 104, x 105, x 106, x 107, x 108, x 109, x 110, x 111, x 112, x 113, x 114, x 115, x 116, x 117, x 118, x 119, x 120, x 121, x 122, x 123, x 124, x 125, x 126, x 127, x 128, x 129, x 130, x 131, x 132, x 133, x 134], []⟩ : Act) from rfl]
        rw [eq118]
        clear eq118
        go_wp2_with fail
        exact ⟨_, rfl, Ext.rfl', Af, cf, Bf, df, rfl, h5, h6⟩
      | 10, _, _ =>
        refine ⟨fun o ho x wx hE hF hd => ?_⟩
        obtain rfl := Option.some.inj ho
        clear ho
        obtain ⟨Af, cf, Bf, df, eq118, h5, h6⟩ : (.tup : ZK).holds (x 118) wx := hd 8 (by decide +kernel) _ _ rfl rfl
        clear hd hF
        have HX := Lib.hid hE
        clear hE
        rw [show actOf _ x = (⟨#[x 0, x 1, x 2, x 3, x 4, x 5, x 6, x 7, x 8, x 9, x 10, x 11, x 12, x 13, x 14, x 15, x 16, x 17, x 18, x 19, x 20, x 21, x 22, x 23, x 24, x 25, x 26, x 27, x 28, x 29, x 30, x 31, x 32, x 33, x 34, x 35, x 36, x 37, x 38, x 39, x 40, x 41, x 42, x 43, x 44, x 45, x 46, x 47, x 48, x 49, x 50, x 51, x 52, x 53, x 54, x 55, x 56, x 57, x 58, x 59, x 60, x 61, x 62, x 63, x 64, x 65, x 66, x 67, x 68, x 69, x 70, x 71, x 72, x 73, x 74, x 75, x 76, x 77, x 78, x 79, x 80, x 81, x 82, x 83, x 84, x 85, x 86, x 87, x 88, x 89, x 90, x 91, x 92, x 93, x 94, x 95, x 96, x 97, x 98, x 99, x 100, x 101, x 102, x 103, x 104, x 105, x 106, x 107, x 108, x 109, x 110, x 111, x 112, x 113, x 114, x 115, x 116, x 117, x 118, x 119, x 120, x 121, x 122, x 123, x 124, x 125, x 126, x 127, x 128, x 129, x 130, x 131, x 132, x 133, x 134], []⟩ : Act) from rfl]
        rw [eq118]
        clear eq118
        go_wp2_with fail
        exact ⟨_, rfl, Ext.rfl', rfl⟩
      | 11, _, _ =>
        refine ⟨fun o ho x wx hE hF hd => ?_⟩
        obtain rfl := Option.some.inj ho
        clear ho hd hF
        have HX := Lib.hid hE
        clear hE
        have hsz := HX.out.size
        have hcn := Cell4.new wx _ rfl (.bool false) (.slice none 0 0) (.bool false) (.slice none 0 0) 30
        have HCN := Lib.hid hcn
        clear hcn
        rw [show actOf _ x = (⟨#[x 0, x 1, x 2, x 3, x 4, x 5, x 6, x 7, x 8, x 9, x 10, x 11, x 12, x 13, x 14, x 15, x 16, x 17, x 18, x 19, x 20, x 21, x 22, x 23, x 24, x 25, x 26, x 27, x 28, x 29, x 30, x 31, x 32, x 33, x 34, x 35, x 36, x 37, x 38, x 39, x 40, x 41, x 42, x 43, x 44, x 45, x 46, x 47, x 48, x 49, x 50, x 51, x 52, x 53, x 54, x 55, x 56, x 57, x 58, x 59, x 60, x 61, x 62, x 63, x 64, x 65, x 66, x 67, x 68, x 69, x 70, x 71, x 72, x 73, x 74, x 75, x 76, x 77, x 78, x 79, x 80, x 81, x 82, x 83, x 84, x 85, x 86, x 87, x 88, x 89, x 90, x 91, x 92, x 93, x 94, x 95, x 96, x 97, x 98, x 99, x 100, x 101, x 102, x 103, x 104, x 105, x 106, x 107, x 108, x 109, x 110, x 111, x 112, x 113, x 114, x 115, x 116, x 117, x 118, x 119, x 120, x 121, x 122, x 123, x 124, x 125, x 126, x 127, x 128, x 129, x 130, x 131, x 132, x 133, x 134], []⟩ : Act) from rfl]
        go_wp2_with fail
        exact ⟨_, rfl, Ext.al Ext.rfl' _, _, rfl, hsz, HCN.out⟩
      | 12, _, h => exact absurd rfl h
      | 13, _, _ =>
        refine ⟨fun o ho x wx hE hF hd => ?_⟩
        obtain rfl := Option.some.inj ho
        clear ho
        have ed128 : x 128 = (.int .i64 0) := hd 10 (by decide +kernel) _ _ rfl rfl
        clear hd hF
        have HX := Lib.hid hE
        clear hE
        rw [show actOf _ x = (⟨#[x 0, x 1, x 2, x 3, x 4, x 5, x 6, x 7, x 8, x 9, x 10, x 11, x 12, x 13, x 14, x 15, x 16, x 17, x 18, x 19, x 20, x 21, x 22, x 23, x 24, x 25, x 26, x 27, x 28, x 29, x 30, x 31, x 32, x 33, x 34, x 35, x 36, x 37, x 38, x 39, x 40, x 41, x 42, x 43, x 44, x 45, x 46, x 47, x 48, x 49, x 50, x 51, x 52, x 53, x 54, x 55, x 56, x 57, x 58, x 59, x 60, x 61, x 62, x 63, x 64, x 65, x 66, x 67, x 68, x 69, x 70, x 71, x 72, x 73, x 74, x 75, x 76, x 77, x 78, x 79, x 80, x 81, x 82, x 83, x 84, x 85, x 86, x 87, x 88, x 89, x 90, x 91, x 92, x 93, x 94, x 95, x 96, x 97, x 98, x 99, x 100, x 101, x 102, x 103, x 104, x 105, x 106, x 107, x 108, x 109, x 110, x 111, x 112, x 113, x 114, x 115, x 116, x 117, x 118, x 119, x 120, x 121, x 122, x 123, x 124, x 125, x 126, x 127, x 128, x 129, x 130, x 131, x 132, x 133, x 134], []⟩ : Act) from rfl]
        rw [ed128]
        clear ed128
        go_wp2_with fail
        exact ⟨_, rfl, Ext.rfl', rfl⟩
      | q + 14, h, _ => exact absurd h (by simp)
    · intro i hi
      simp only [List.mem_cons, List.not_mem_nil, or_false] at hi
      rcases hi with rfl | rfl
      · skip
        refine ⟨fun o ho x wp wx hE hF hd => ?_⟩
        obtain rfl := Option.some.inj ho
        clear ho
        obtain ⟨Af, cf, Bf, df, eq118, h5, h6⟩ : (.tup : ZK).holds (x 118) wp := hd 8 (by decide +kernel) _ _ rfl rfl
        clear hd hF
        have HX := Lib.hid hE
        clear hE
        rw [show actOf _ x = (⟨#[x 0, x 1, x 2, x 3, x 4, x 5, x 6, x 7, x 8, x 9, x 10, x 11, x 12, x 13, x 14, x 15, x 16, x 17, x 18, x 19, x 20, x 21, x 22, x 23, x 24, x 25, x 26, x 27, x 28, x 29, x 30, x 31, x 32, x 33, x 34, x 35, x 36, x 37, x 38, x 39, x 40, x 41, x 42, x 43, x 44, x 45, x 46, x 47, x 48, x 49, x 50, x 51, x 52, x 53, x 54, x 55, x 56, x 57, x 58, x 59, x 60, x 61, x 62, x 63, x 64, x 65, x 66, x 67, x 68, x 69, x 70, x 71, x 72, x 73, x 74, x 75, x 76, x 77, x 78, x 79, x 80, x 81, x 82, x 83, x 84, x 85, x 86, x 87, x 88, x 89, x 90, x 91, x 92, x 93, x 94, x 95, x 96, x 97, x 98, x 99, x 100, x 101, x 102, x 103, x 104, x 105, x 106, x 107, x 108, x 109, x 110, x 111, x 112, x 113, x 114, x 115, x 116, x 117, x 118, x 119, x 120, x 121, x 122, x 123, x 124, x 125, x 126, x 127, x 128, x 129, x 130, x 131, x 132, x 133, x 134], []⟩ : Act) from rfl]
        rw [eq118]
        clear eq118
        go_wp2_with fail
        exact ⟨_, rfl, rfl, rfl⟩
      · skip
        refine ⟨fun o ho x wp wx hE hF hd => ?_⟩
        obtain rfl := Option.some.inj ho
        clear ho
        have ed128 : x 128 = (.int .i64 0) := hd 10 (by decide +kernel) _ _ rfl rfl
        clear hd hF
        have HX := Lib.hid hE
        clear hE
        rw [show actOf _ x = (⟨#[x 0, x 1, x 2, x 3, x 4, x 5, x 6, x 7, x 8, x 9, x 10, x 11, x 12, x 13, x 14, x 15, x 16, x 17, x 18, x 19, x 20, x 21, x 22, x 23, x 24, x 25, x 26, x 27, x 28, x 29, x 30, x 31, x 32, x 33, x 34, x 35, x 36, x 37, x 38, x 39, x 40, x 41, x 42, x 43, x 44, x 45, x 46, x 47, x 48, x 49, x 50, x 51, x 52, x 53, x 54, x 55, x 56, x 57, x 58, x 59, x 60, x 61, x 62, x 63, x 64, x 65, x 66, x 67, x 68, x 69, x 70, x 71, x 72, x 73, x 74, x 75, x 76, x 77, x 78, x 79, x 80, x 81, x 82, x 83, x 84, x 85, x 86, x 87, x 88, x 89, x 90, x 91, x 92, x 93, x 94, x 95, x 96, x 97, x 98, x 99, x 100, x 101, x 102, x 103, x 104, x 105, x 106, x 107, x 108, x 109, x 110, x 111, x 112, x 113, x 114, x 115, x 116, x 117, x 118, x 119, x 120, x 121, x 122, x 123, x 124, x 125, x 126, x 127, x 128, x 129, x 130, x 131, x 132, x 133, x 134], []⟩ : Act) from rfl]
        rw [ed128]
        clear ed128
        go_wp2_with fail
        exact ⟨_, rfl, rfl, rfl⟩
    · refine ⟨fun o ho x wx hE hF hd => ?_⟩
      obtain rfl := Option.some.inj ho
      clear ho
      obtain ⟨gz, eq19, hgz, hcz⟩ : (ZK.cell w22.heap.size).holds (x 19) wx := hd 11 _ _ (by decide) rfl rfl
      obtain ⟨Af, cf, Bf, df, eq127, h5, h6⟩ : (ZK.agg).holds (x 127) wx := hd 9 _ _ (by decide) rfl rfl
      clear hd hF hE
      have HCZ := Lib.hid hcz
      have H56 := Lib.hid (And.intro h5 h6)
      clear hcz h5 h6 hgz
      have HS19 : Hid (x 19 = .pointer (some ⟨gz, 0, none⟩)) := eq19
      have HS127 : Hid (x 127 = .agg #[.bool false, .slice Af 0 cf, .bool false, .slice Bf 0 df]) := eq127
      obtain ⟨y19, hy19⟩ : ∃ v, x 19 = v := ⟨_, rfl⟩
      obtain ⟨y127, hy127⟩ : ∃ v, x 127 = v := ⟨_, rfl⟩
      rw [show actOf _ x = (⟨#[x 0, x 1, x 2, x 3, x 4, x 5, x 6, x 7, x 8, x 9, x 10, x 11, x 12, x 13, x 14, x 15, x 16, x 17, x 18, x 19, x 20, x 21, x 22, x 23, x 24, x 25, x 26, x 27, x 28, x 29, x 30, x 31, x 32, x 33, x 34, x 35, x 36, x 37, x 38, x 39, x 40, x 41, x 42, x 43, x 44, x 45, x 46, x 47, x 48, x 49, x 50, x 51, x 52, x 53, x 54, x 55, x 56, x 57, x 58, x 59, x 60, x 61, x 62, x 63, x 64, x 65, x 66, x 67, x 68, x 69, x 70, x 71, x 72, x 73, x 74, x 75, x 76, x 77, x 78, x 79, x 80, x 81, x 82, x 83, x 84, x 85, x 86, x 87, x 88, x 89, x 90, x 91, x 92, x 93, x 94, x 95, x 96, x 97, x 98, x 99, x 100, x 101, x 102, x 103, x 104, x 105, x 106, x 107, x 108, x 109, x 110, x 111, x 112, x 113, x 114, x 115, x 116, x 117, x 118, x 119, x 120, x 121, x 122, x 123, x 124, x 125, x 126, x 127, x 128, x 129, x 130, x 131, x 132, x 133, x 134], []⟩ : Act) from rfl]
      rw [eq19, eq127]
      clear eq19 eq127 hy19 hy127
      go_wp2_with (
        refine wpList_storeV rfl 30 _ _ rfl gz 0 [.bool false, .slice Af 0 cf, .bool false, .slice Bf 0 df] rfl rfl HCZ.out.there (by kernel_rfl) rfl ?_
        intro wS hp
        have HPV := Lib.hid hp
        clear hp)
      exact ⟨rfl, gz, Af, cf, Bf, df, rfl, rfl, H56.out.1, H56.out.2, HPV.out.touch, HCZ.out.putVs HPV.out⟩
    intro x w23 w24 hE hF hV hS
    have ez20 : x 20 = .int .i64 0 := hV 13 _ _ rfl rfl
    obtain ⟨gy, eq19, hgy, -⟩ : (ZK.cell w22.heap.size).holds (x 19) w23 := hV 11 _ _ rfl rfl
    obtain ⟨gz, Af, cf, Bf, df, e19, -, h5, h6, hT, hC⟩ := hS
    rw [eq19] at e19
    obtain rfl : gy = gz := by injection e19 with e19; injection e19 with e19; injection e19
    have hE3 := hT.ext _ hE hgy
    have HCL := Lib.hid hC
    have H56 := Lib.hid (And.intro h5 h6)
    clear hV hF hT hC e19 h5 h6 hE hgy
    have Ew24 := Lib.hid hE3
    clear hE3
    rw [show actOf _ x = (⟨#[x 0, x 1, x 2, x 3, x 4, x 5, x 6, x 7, x 8, x 9, x 10, x 11, x 12, x 13, x 14, x 15, x 16, x 17, x 18, x 19, x 20, x 21, x 22, x 23, x 24, x 25, x 26, x 27, x 28, x 29, x 30, x 31, x 32, x 33, x 34, x 35, x 36, x 37, x 38, x 39, x 40, x 41, x 42, x 43, x 44, x 45, x 46, x 47, x 48, x 49, x 50, x 51, x 52, x 53, x 54, x 55, x 56, x 57, x 58, x 59, x 60, x 61, x 62, x 63, x 64, x 65, x 66, x 67, x 68, x 69, x 70, x 71, x 72, x 73, x 74, x 75, x 76, x 77, x 78, x 79, x 80, x 81, x 82, x 83, x 84, x 85, x 86, x 87, x 88, x 89, x 90, x 91, x 92, x 93, x 94, x 95, x 96, x 97, x 98, x 99, x 100, x 101, x 102, x 103, x 104, x 105, x 106, x 107, x 108, x 109, x 110, x 111, x 112, x 113, x 114, x 115, x 116, x 117, x 118, x 119, x 120, x 121, x 122, x 123, x 124, x 125, x 126, x 127, x 128, x 129, x 130, x 131, x 132, x 133, x 134], []⟩ : Act) from rfl, ez20, eq19]
    clear ez20 eq19
    obtain ⟨⟨l0, l1, l2, l3⟩, -, lz⟩ := HCL.out
    have hb9 : ((0 : Int) == 0) = true := by decide
    go_wp2_with fail
    refine (is_any false Af 0 cf false Bf 0 df 0 0 w24 ⟨qis0 _ H56.out.1 H56.out.2, by omega, by omega⟩ (by omega)).mono ?_
    rintro e wq ⟨rfl, hE⟩
    rw [decide_eq_true (show (0 : Rat) = ((0 : Int) : Rat) from rfl)]
    have HEQ := Lib.hid hE
    clear hE
    go_wp2_with fail
    go_ret
    exact ⟨rfl, Ext.trans (Ext.trans Ew1.out (Ext.trans Ew2.out (Ext.trans Ew3.out (Ext.trans Ew4.out (Ext.trans Ew7.out (Ext.trans Ew8.out (Ext.trans NJ1.out (Ext.trans EV3.out (Ext.trans Ew14.out (Ext.trans NJ2.out (Ext.trans Ew19.out (Ext.trans Ew20.out (Ext.trans Ew21.out (Ext.trans Ew22.out Ew24.out)))))))))))))) HEQ.out⟩
  have HRR2 := HRR.out
  subst HRR2
  go_wp2_with (first
    | (
      refine wpList_storeS rfl 3 _ _ rfl gv 8 (.int .i64 (-1)) rfl rfl rfl HTV.out (by kernel_rfl) rfl ?_
      intro wv hpv
      have KV2 : Hid (UBox wv gv (u.onAt (-1)) A n c) := KV.out.set8U hpv
      have RV2 : Hid (RowN wv gv 9) := RV.out.putVs hpv
      have EV3 := Lib.hid (hpv.touch.ext w12 EV.out (by rw [HGV.out]; exact Nat.le_refl _))
      have xrow := Ext.cellOf (Ext.trans (Ext.trans Ew1.out (Ext.trans Ew2.out (Ext.trans Ew3.out (Ext.trans Ew4.out (Ext.trans Ew7.out (Ext.trans Ew8.out NJ1.out)))))) EV3.out) HRW.out
      have zrow := World.block_lt_of_cell? _ _ xrow
      have HTV2 := Lib.hid (RV2.out.there (o := 8) (k := 1) (by omega))
      clear hpv)
    | (
      refine wpList_storeS rfl 3 _ _ rfl gv 8 (.int .i64 1) rfl rfl rfl HTV2.out (by kernel_rfl) rfl ?_
      intro wv2 hpv
      have KV4 : Hid (UBox wv2 gv (u.onAt 1) A n c) := (show u.onAt 1 = (u.onAt (-1)).onAt 1 from rfl) ▸ KV2.out.set8U hpv
      have EV4 := Lib.hid (hpv.touch.ext w12 EV3.out (by rw [HGV.out]; exact Nat.le_refl _))
      clear hpv))
  try simp only [Act.put]
  clear xrow zrow HTV2 RV2 KV2 EV3
  obtain ⟨son, hson⟩ : ∃ v : Int, 1 = v := ⟨_, rfl⟩
  have HSON : Hid (onOf plan j = son) := by unfold Hid; rw [HON.out, ← hson]; rfl
  rw [hson] at KV4
  clear hson
  have KV2 := KV4
  have EV3 := EV4
  clear KV4 EV4
  obtain ⟨wv, hwv⟩ : ∃ v, v = wv2 := ⟨_, rfl⟩
  rw [← hwv] at KV2 EV3 ⊢
  clear hwv
  clear hjq hq0 hqn HTV EV KV RV HRW
  rw [HSON.out] at HSP
  obtain ⟨v, hv⟩ : ∃ v, u.onAt son = v := ⟨_, rfl⟩
  have HSV : Hid (v.steps = u.steps) := by unfold Hid; rw [← hv]; rfl
  rw [hv] at KV2 HSP
  clear hv
  obtain ⟨A1, x1, x2, hA1⟩ := slice_loU 41 4 Try.underlying41 1 size_boolU (some ⟨bR, oR, none⟩) k dp j hjk hdp
  obtain ⟨A2, x3, x4, hA2⟩ := slice_loU 41 4 Try.underlying41 1 size_boolU R k dR j hjk hdR
  obtain ⟨A3, x5, x6, hA3⟩ := slice_loU 22 30 Try.underlying22 4 size_qU P k cp j hjk hcp
  have HP2 := Lib.hid (HP.out.slicedU hjk hdp hA1)
  have HR2 := Lib.hid (HR.out.slicedU hjk hdR hA2)
  have HG2 := Lib.hid (HG.out.slicedU hjk hcp hA3)
  clear hA1 hA2 hA3
  have HZC : Hid (Sz 8388674 (v.dayV (plan.drop j) (ran.drop j) (qs.drop j))) := (sz_dayV (K := 1048576) (fun i hi => by
    rw [getD_dropU]
    exact HG.out.sz (by omega) (j + i))).mono (by omega)
  refine wp_region_havS [14] [0, 1, 2, 3, 4, 5, 6, 7, 8, 9, 10, 11, 12, 13] [15, 16] (fun _ => .cells #[.bool false, .slice none 0 0, .bool false, .slice none 0 0] 30) (by kernel_rfl) (by kernel_rfl) ?_ ?_
  · intro f hf
    simp only [List.mem_cons, List.not_mem_nil, or_false] at hf
    rcases hf with rfl
    all_goals exact makes_q (by rfl) rfl
  have hE : Ext wv wv.drew := Ext.rfl'.drew
  generalize wv.drew = w25 at *
  have Ew25 := Lib.hid hE
  clear hE
  have fv0 := fun z : ExtX w25 [] => z.cell (p := ⟨gv, 0, none⟩) (KV2.out.ext Ew25.out).1 (by simp)
  have fv1 := fun z : ExtX w25 [] => z.cell (p := ⟨gv, 1, none⟩) (KV2.out.ext Ew25.out).2.1 (by simp)
  have fv2 := fun z : ExtX w25 [] => z.cell (p := ⟨gv, 2, none⟩) (KV2.out.ext Ew25.out).2.2.1 (by simp)
  have fv3 := fun z : ExtX w25 [] => z.cell (p := ⟨gv, 3, none⟩) (KV2.out.ext Ew25.out).2.2.2.1 (by simp)
  have fv4 := fun z : ExtX w25 [] => z.cell (p := ⟨gv, 4, none⟩) (KV2.out.ext Ew25.out).2.2.2.2.1 (by simp)
  have fv5 := fun z : ExtX w25 [] => z.cell (p := ⟨gv, 5, none⟩) (KV2.out.ext Ew25.out).2.2.2.2.2.1 (by simp)
  have fv6 := fun z : ExtX w25 [] => z.cell (p := ⟨gv, 6, none⟩) (KV2.out.ext Ew25.out).2.2.2.2.2.2.1 (by simp)
  have fv7 := fun z : ExtX w25 [] => z.cell (p := ⟨gv, 7, none⟩) (KV2.out.ext Ew25.out).2.2.2.2.2.2.2.1 (by simp)
  have fv8 := fun z : ExtX w25 [] => z.cell (p := ⟨gv, 8, none⟩) (KV2.out.ext Ew25.out).2.2.2.2.2.2.2.2 (by simp)
  intro w26 hE
  have Ew26 := Lib.hid hE
  clear hE
  repeat (refine havAt_still (by rfl) (by rfl) ?_; go_big_quiet_step (fail); refine wpQuiet_nil ?_)
  refine havAt_move (by rfl) (by rfl) (by kernel_rfl) ?_
  go_wp2_with fail
  refine (upcost_any v A n c A1 (k - j) (dp - j) (plan.drop j) A2 (k - j) (dR - j) (ran.drop j) A3 (k - j) (cp - j) (qs.drop j) w26 (by rw [HSV.out]; exact (HS.out.below (Ext.trans Ew1.out (Ext.trans Ew2.out (Ext.trans Ew3.out (Ext.trans Ew4.out (Ext.trans Ew7.out (Ext.trans Ew8.out (Ext.trans NJ1.out (Ext.trans EV3.out (Ext.trans Ew25.out Ew26.out))))))))))) hn (HP2.out.below (Ext.trans Ew1.out (Ext.trans Ew2.out (Ext.trans Ew3.out (Ext.trans Ew4.out (Ext.trans Ew7.out (Ext.trans Ew8.out (Ext.trans NJ1.out (Ext.trans EV3.out (Ext.trans Ew25.out Ew26.out)))))))))) (by unfold maxLen; omega) (HR2.out.below (Ext.trans Ew1.out (Ext.trans Ew2.out (Ext.trans Ew3.out (Ext.trans Ew4.out (Ext.trans Ew7.out (Ext.trans Ew8.out (Ext.trans NJ1.out (Ext.trans EV3.out (Ext.trans Ew25.out Ew26.out)))))))))) (by unfold maxLen; omega) (HG2.out.ext (Ext.trans Ew1.out (Ext.trans Ew2.out (Ext.trans Ew3.out (Ext.trans Ew4.out (Ext.trans Ew7.out (Ext.trans Ew8.out (Ext.trans NJ1.out (Ext.trans EV3.out (Ext.trans Ew25.out Ew26.out)))))))))) (by unfold maxLen; omega)).mono ?_
  rintro e w27 ⟨se, Ae, ne, ce, te, Be, me, de, rfl, hQ, hE⟩
  have Ew27 := Lib.hid hE
  clear hE
  rw [HSP.out.2.1]
  have Qe := Lib.hid hQ
  clear hQ
  go_wp2_with fail
  refine And.intro Ew27.out (fun w28 hE => ?_)
  have Ew28 := Lib.hid hE
  clear hE
  repeat (refine havAt_still (by rfl) (by rfl) ?_; go_big_quiet_step (fail); refine wpQuiet_nil ?_)
  refine havAt_end ?_
  intro gs hgs hne
  have hpe := hgs 14 (by simp)
  change IdxAt _ _ _ _ _ _ (Act.put _ (some 17) (.pointer (some ⟨gs 14, 0, none⟩))) _
  generalize gs 14 = ge at *
  clear hgs hne
  simp only [Act.put, List.setIfInBounds_toArray, List.set_cons_succ, List.set_cons_zero]
  have Pe := Lib.hid hpe
  have Ke := Lib.hid (Cell4.of_blk hpe.2.1)
  clear hpe
  repeat (refine idxAt_still (by rfl) (by rfl) ?_; go_big_quiet_step (fail); refine wpQuiet_nil ?_)
  obtain ⟨⟨o0, o1, o2, o3⟩, ⟨q0, q1, q2, q3⟩, ol⟩ := Ke.out
  refine idxAt_move (by rfl) (by rfl) (by kernel_rfl) ?_
  go_wp2_with fail
  refine And.intro (inX_put (p := ⟨ge, 3, none⟩) (inX_put (p := ⟨ge, 2, none⟩) (inX_put (p := ⟨ge, 1, none⟩) (inX_put (p := ⟨ge, 0, none⟩) (inX_of_ext _ (Ext.trans Ew26.out (Ext.trans Ew27.out Ew28.out))) (.inr Pe.out.1) _) (.inr Pe.out.1) _) (.inr Pe.out.1) _) (.inr Pe.out.1) _) ?_
  clear o0 o1 o2 o3 q0 q1 q2 q3 ol
  have Ke_3 := Lib.hid (Ke.out.put4 (.bool se) (.slice Ae ne ce) (.bool te) (.slice Be me de))
  have NJ3 := Lib.hid (ext_put4 (Ext.trans Ew26.out (Ext.trans Ew27.out Ew28.out)) (g := ge) Pe.out.1 0 (.bool se) (.slice Ae ne ce) (.bool te) (.slice Be me de))
  have NZ3 : Hid (w28.heap.size ≤ (put4 w28 (ge) 0 (.bool se) (.slice Ae ne ce) (.bool te) (.slice Be me de)).heap.size) := by unfold Hid; rw [put4_size]; exact Nat.le_refl _
  have Qe_3 := Lib.hid ((Qe.out.ext Ew28.out).put4A (g := ge) (Qe.out.span (Pe.out.2.2 (w26.heap.size, w27.heap.size) (by simp))) 0 (.bool se) (.slice Ae ne ce) (.bool te) (.slice Be me de))
  unfold put4 at Ke_3 NJ3 NZ3 Qe_3
  simp only [Nat.zero_add] at Ke_3 NJ3 NZ3 Qe_3
  generalize ((((w28.setCell ⟨ge, 0, none⟩ (.bool se)).setCell ⟨ge, 1, none⟩ (.slice Ae ne ce)).setCell ⟨ge, 2, none⟩ (.bool te)).setCell ⟨ge, 3, none⟩ (.slice Be me de)) = w29 at *
  repeat (refine idxAt_still (by rfl) (by rfl) ?_; go_big_quiet_step (fail); refine wpQuiet_nil ?_)
  refine idxAt_nil ?_
  clear fv0 fv1 fv2 fv3 fv4 fv5 fv6 fv7 fv8
  clear x1 x2 x3 x4 x5 x6
  have hb0 : ((0 : Int) != 0) = false := by decide
  go_wp2_with fail
  refine wp_region_lexSW (C := InX w29.drew []) (by kernel_rfl) (by kernel_rfl) (inX_self _ _) ?_
  have hE : Ext w29 w29.drew := Ext.rfl'.drew
  generalize w29.drew = w30 at *
  have Ew30 := Lib.hid hE
  clear hE
  have fb0 := fun z : ExtX w30 [] => z.cell (p := ⟨gb, 0, none⟩) (Kb_1.out.ext (Ext.trans EV3.out (Ext.trans Ew25.out (Ext.trans NJ3.out Ew30.out)))).1.1 (by simp)
  have fb1 := fun z : ExtX w30 [] => z.cell (p := ⟨gb, 1, none⟩) (Kb_1.out.ext (Ext.trans EV3.out (Ext.trans Ew25.out (Ext.trans NJ3.out Ew30.out)))).1.2.1 (by simp)
  have fb2 := fun z : ExtX w30 [] => z.cell (p := ⟨gb, 2, none⟩) (Kb_1.out.ext (Ext.trans EV3.out (Ext.trans Ew25.out (Ext.trans NJ3.out Ew30.out)))).1.2.2.1 (by simp)
  have fb3 := fun z : ExtX w30 [] => z.cell (p := ⟨gb, 3, none⟩) (Kb_1.out.ext (Ext.trans EV3.out (Ext.trans Ew25.out (Ext.trans NJ3.out Ew30.out)))).1.2.2.2 (by simp)
  have fe0 := fun z : ExtX w30 [] => z.cell (p := ⟨ge, 0, none⟩) (Ke_3.out.ext Ew30.out).1.1 (by simp)
  have fe1 := fun z : ExtX w30 [] => z.cell (p := ⟨ge, 1, none⟩) (Ke_3.out.ext Ew30.out).1.2.1 (by simp)
  have fe2 := fun z : ExtX w30 [] => z.cell (p := ⟨ge, 2, none⟩) (Ke_3.out.ext Ew30.out).1.2.2.1 (by simp)
  have fe3 := fun z : ExtX w30 [] => z.cell (p := ⟨ge, 3, none⟩) (Ke_3.out.ext Ew30.out).1.2.2.2 (by simp)
  have fa0 := fun z : ExtX w30 [] => z.cell (p := ⟨w4.heap.size, 0, none⟩) (Ka.out.ext (Ext.trans Ew8.out (Ext.trans NJ1.out (Ext.trans EV3.out (Ext.trans Ew25.out (Ext.trans NJ3.out Ew30.out)))))).1.1 (by simp)
  have fa1 := fun z : ExtX w30 [] => z.cell (p := ⟨w4.heap.size, 1, none⟩) (Ka.out.ext (Ext.trans Ew8.out (Ext.trans NJ1.out (Ext.trans EV3.out (Ext.trans Ew25.out (Ext.trans NJ3.out Ew30.out)))))).1.2.1 (by simp)
  have fa2 := fun z : ExtX w30 [] => z.cell (p := ⟨w4.heap.size, 2, none⟩) (Ka.out.ext (Ext.trans Ew8.out (Ext.trans NJ1.out (Ext.trans EV3.out (Ext.trans Ew25.out (Ext.trans NJ3.out Ew30.out)))))).1.2.2.1 (by simp)
  have fa3 := fun z : ExtX w30 [] => z.cell (p := ⟨w4.heap.size, 3, none⟩) (Ka.out.ext (Ext.trans Ew8.out (Ext.trans NJ1.out (Ext.trans EV3.out (Ext.trans Ew25.out (Ext.trans NJ3.out Ew30.out)))))).1.2.2.2 (by simp)
  repeat (refine lexAt_still (by rfl) ?_; go_big_quiet_step (fail); refine wpQuiet_nil ?_)
  refine lexAt_move (by rfl) (by kernel_rfl) ?_
  go_wp2_with fail
  refine (qadd_any sb Ab nb cb tb Bb mb db _ se Ae ne ce te Be me de _ w30 ((Qb_1.out.ext (Ext.trans EV3.out (Ext.trans Ew25.out (Ext.trans NJ3.out Ew30.out)))).arg HZB.out (by omega)) ((Qe_3.out.ext Ew30.out).arg HZC.out (by omega))).mono ?_
  rintro e w31 ⟨ss, As, ns, cs, ts, Bs, ms, ds, rfl, hQ, hE⟩
  have Ew31 := Lib.hid hE
  clear hE
  have Qs := Lib.hid hQ
  clear hQ
  go_wp2_with fail
  refine And.intro (inX_of_ext _ Ew31.out) ?_
  repeat (refine lexAt_still (by rfl) ?_; go_big_quiet_step (fail); refine wpQuiet_nil ?_)
  refine lexAt_move (by rfl) (by kernel_rfl) ?_
  go_wp2_with fail
  refine (qequal_any ss As ns cs ts Bs ms ds _ sa Aa na ca ta Ba ma da _ w31 (Qs.out.arg (HZB.out.add HZC.out) (by omega)) ((Qa.out.ext (Ext.trans Ew7.out (Ext.trans Ew8.out (Ext.trans NJ1.out (Ext.trans EV3.out (Ext.trans Ew25.out (Ext.trans NJ3.out (Ext.trans Ew30.out Ew31.out)))))))).arg HZA.out (by omega))).mono ?_
  rintro e w32 ⟨rfl, hE⟩
  have Ew32 := Lib.hid hE
  clear hE
  rw [decide_eq_true HSP.out.2.2]
  go_wp2_with fail
  refine And.intro (inX_of_ext _ (Ext.trans Ew31.out Ew32.out)) ?_
  repeat (refine lexAt_still (by rfl) ?_; go_big_quiet_step (fail); refine wpQuiet_nil ?_)
  refine lexAt_nil ?_
  clear fb0 fb1 fb2 fb3 fe0 fe1 fe2 fe3 fa0 fa1 fa2 fa3
  go_wp2_with fail
  have hE : Ext w32 w32.drew := Ext.rfl'.drew
  refine wp_region_freeS (fun i => (([(.is (u.val A n c)), (.is (.int .i64 (j : Int))), (.bools j), (.is (.int .i64 (j : Int))), (.bools j), (.is (.int .i64 (j : Int))), (.zeros j), .tup, .tup, .agg, (.is (.int .i64 0)), (.cell w32.drew.heap.size), (.is undef), (.is (.int .i64 0))] : List ZK).getD i (.is undef)).holds) ZStored 12 19 127 [10, 13] (by kernel_rfl) (by kernel_rfl) (fun _ _ _ _ h hE => ZK.mono h hE) ?_ ?_ ?_ ?_
  all_goals generalize w32.drew = w33 at *
  all_goals have Ew33 := Lib.hid hE
  all_goals clear hE
  · intro i hi hne
    match i, hi, hne with
    | 0, _, _ =>
      refine ⟨fun o ho x wx hE hF hd => ?_⟩
      obtain rfl := Option.some.inj ho
      clear ho
      have ef5 : x 5 = (.pointer (some ⟨w.heap.size, 0, none⟩)) := hF 5 (by decide +kernel)
      clear hd hF
      have HX := Lib.hid hE
      clear hE
      rw [show actOf _ x = (⟨#[x 0, x 1, x 2, x 3, x 4, x 5, x 6, x 7, x 8, x 9, x 10, x 11, x 12, x 13, x 14, x 15, x 16, x 17, x 18, x 19, x 20, x 21, x 22, x 23, x 24, x 25, x 26, x 27, x 28, x 29, x 30, x 31, x 32, x 33, x 34, x 35, x 36, x 37, x 38, x 39, x 40, x 41, x 42, x 43, x 44, x 45, x 46, x 47, x 48, x 49, x 50, x 51, x 52, x 53, x 54, x 55, x 56, x 57, x 58, x 59, x 60, x 61, x 62, x 63, x 64, x 65, x 66, x 67, x 68, x 69, x 70, x 71, x 72, x 73, x 74, x 75, x 76, x 77, x 78, x 79, x 80, x 81, x 82, x 83, x 84, x 85, x 86, x 87, x 88, x 89, x 90, x 91, x 92, x 93, x 94, x 95, x 96, x 97, x 98, x 99, x 100, x 101, x 102, x 103, x 104, x 105, x 106, x 107, x 108, x 109, x 110, x 111, x 112, x 113, x 114, x 115, x 116, x 117, x 118, x 119, x 120, x 121, x 122, x 123, x 124, x 125, x 126, x 127, x 128, x 129, x 130, x 131, x 132, x 133, x 134], []⟩ : Act) from rfl]
      rw [ef5]
      clear ef5
      have zu := World.block_lt_of_cell? _ _ (Ku.out.ext (Ext.trans Ew2.out (Ext.trans Ew3.out (Ext.trans Ew4.out (Ext.trans Ew7.out (Ext.trans Ew8.out (Ext.trans NJ1.out (Ext.trans EV3.out (Ext.trans Ew25.out (Ext.trans NJ3.out (Ext.trans Ew30.out (Ext.trans Ew31.out (Ext.trans Ew32.out (Ext.trans Ew33.out HX.out)))))))))))))).1
      have xu0 := (Ku.out.ext (Ext.trans Ew2.out (Ext.trans Ew3.out (Ext.trans Ew4.out (Ext.trans Ew7.out (Ext.trans Ew8.out (Ext.trans NJ1.out (Ext.trans EV3.out (Ext.trans Ew25.out (Ext.trans NJ3.out (Ext.trans Ew30.out (Ext.trans Ew31.out (Ext.trans Ew32.out (Ext.trans Ew33.out HX.out)))))))))))))).1
      have xu1 := (Ku.out.ext (Ext.trans Ew2.out (Ext.trans Ew3.out (Ext.trans Ew4.out (Ext.trans Ew7.out (Ext.trans Ew8.out (Ext.trans NJ1.out (Ext.trans EV3.out (Ext.trans Ew25.out (Ext.trans NJ3.out (Ext.trans Ew30.out (Ext.trans Ew31.out (Ext.trans Ew32.out (Ext.trans Ew33.out HX.out)))))))))))))).2.1
      have xu2 := (Ku.out.ext (Ext.trans Ew2.out (Ext.trans Ew3.out (Ext.trans Ew4.out (Ext.trans Ew7.out (Ext.trans Ew8.out (Ext.trans NJ1.out (Ext.trans EV3.out (Ext.trans Ew25.out (Ext.trans NJ3.out (Ext.trans Ew30.out (Ext.trans Ew31.out (Ext.trans Ew32.out (Ext.trans Ew33.out HX.out)))))))))))))).2.2.1
      have xu3 := (Ku.out.ext (Ext.trans Ew2.out (Ext.trans Ew3.out (Ext.trans Ew4.out (Ext.trans Ew7.out (Ext.trans Ew8.out (Ext.trans NJ1.out (Ext.trans EV3.out (Ext.trans Ew25.out (Ext.trans NJ3.out (Ext.trans Ew30.out (Ext.trans Ew31.out (Ext.trans Ew32.out (Ext.trans Ew33.out HX.out)))))))))))))).2.2.2.1
      have xu4 := (Ku.out.ext (Ext.trans Ew2.out (Ext.trans Ew3.out (Ext.trans Ew4.out (Ext.trans Ew7.out (Ext.trans Ew8.out (Ext.trans NJ1.out (Ext.trans EV3.out (Ext.trans Ew25.out (Ext.trans NJ3.out (Ext.trans Ew30.out (Ext.trans Ew31.out (Ext.trans Ew32.out (Ext.trans Ew33.out HX.out)))))))))))))).2.2.2.2.1
      have xu5 := (Ku.out.ext (Ext.trans Ew2.out (Ext.trans Ew3.out (Ext.trans Ew4.out (Ext.trans Ew7.out (Ext.trans Ew8.out (Ext.trans NJ1.out (Ext.trans EV3.out (Ext.trans Ew25.out (Ext.trans NJ3.out (Ext.trans Ew30.out (Ext.trans Ew31.out (Ext.trans Ew32.out (Ext.trans Ew33.out HX.out)))))))))))))).2.2.2.2.2.1
      have xu6 := (Ku.out.ext (Ext.trans Ew2.out (Ext.trans Ew3.out (Ext.trans Ew4.out (Ext.trans Ew7.out (Ext.trans Ew8.out (Ext.trans NJ1.out (Ext.trans EV3.out (Ext.trans Ew25.out (Ext.trans NJ3.out (Ext.trans Ew30.out (Ext.trans Ew31.out (Ext.trans Ew32.out (Ext.trans Ew33.out HX.out)))))))))))))).2.2.2.2.2.2.1
      have xu7 := (Ku.out.ext (Ext.trans Ew2.out (Ext.trans Ew3.out (Ext.trans Ew4.out (Ext.trans Ew7.out (Ext.trans Ew8.out (Ext.trans NJ1.out (Ext.trans EV3.out (Ext.trans Ew25.out (Ext.trans NJ3.out (Ext.trans Ew30.out (Ext.trans Ew31.out (Ext.trans Ew32.out (Ext.trans Ew33.out HX.out)))))))))))))).2.2.2.2.2.2.2.1
      have xu8 := (Ku.out.ext (Ext.trans Ew2.out (Ext.trans Ew3.out (Ext.trans Ew4.out (Ext.trans Ew7.out (Ext.trans Ew8.out (Ext.trans NJ1.out (Ext.trans EV3.out (Ext.trans Ew25.out (Ext.trans NJ3.out (Ext.trans Ew30.out (Ext.trans Ew31.out (Ext.trans Ew32.out (Ext.trans Ew33.out HX.out)))))))))))))).2.2.2.2.2.2.2.2
      go_wp2_with fail
      exact ⟨(u.val A n c), rfl, Ext.rfl', rfl⟩
    | 1, _, _ =>
      refine ⟨fun o ho x wx hE hF hd => ?_⟩
      obtain rfl := Option.some.inj ho
      clear ho
      have ef13 : x 13 = (.int .i64 (j : Int)) := hF 13 (by decide +kernel)
      clear hd hF
      have HX := Lib.hid hE
      clear hE
      rw [show actOf _ x = (⟨#[x 0, x 1, x 2, x 3, x 4, x 5, x 6, x 7, x 8, x 9, x 10, x 11, x 12, x 13, x 14, x 15, x 16, x 17, x 18, x 19, x 20, x 21, x 22, x 23, x 24, x 25, x 26, x 27, x 28, x 29, x 30, x 31, x 32, x 33, x 34, x 35, x 36, x 37, x 38, x 39, x 40, x 41, x 42, x 43, x 44, x 45, x 46, x 47, x 48, x 49, x 50, x 51, x 52, x 53, x 54, x 55, x 56, x 57, x 58, x 59, x 60, x 61, x 62, x 63, x 64, x 65, x 66, x 67, x 68, x 69, x 70, x 71, x 72, x 73, x 74, x 75, x 76, x 77, x 78, x 79, x 80, x 81, x 82, x 83, x 84, x 85, x 86, x 87, x 88, x 89, x 90, x 91, x 92, x 93, x 94, x 95, x 96, x 97, x 98, x 99, x 100, x 101, x 102, x 103, x 104, x 105, x 106, x 107, x 108, x 109, x 110, x 111, x 112, x 113, x 114, x 115, x 116, x 117, x 118, x 119, x 120, x 121, x 122, x 123, x 124, x 125, x 126, x 127, x 128, x 129, x 130, x 131, x 132, x 133, x 134], []⟩ : Act) from rfl]
      rw [ef13]
      clear ef13
      go_wp2_with fail
      exact ⟨(.int .i64 (j : Int)), rfl, Ext.rfl', rfl⟩
    | 2, _, _ =>
      refine ⟨fun o ho x wx hE hF hd => ?_⟩
      obtain rfl := Option.some.inj ho
      clear ho
      have ed120 : x 120 = (.int .i64 (j : Int)) := hd 1 (by decide +kernel) _ _ rfl rfl
      clear hd hF
      have HX := Lib.hid hE
      clear hE
      rw [show actOf _ x = (⟨#[x 0, x 1, x 2, x 3, x 4, x 5, x 6, x 7, x 8, x 9, x 10, x 11, x 12, x 13, x 14, x 15, x 16, x 17, x 18, x 19, x 20, x 21, x 22, x 23, x 24, x 25, x 26, x 27, x 28, x 29, x 30, x 31, x 32, x 33, x 34, x 35, x 36, x 37, x 38, x 39, x 40, x 41, x 42, x 43, x 44, x 45, x 46, x 47, x 48, x 49, x 50, x 51, x 52, x 53, x 54, x 55, x 56, x 57, x 58, x 59, x 60, x 61, x 62, x 63, x 64, x 65, x 66, x 67, x 68, x 69, x 70, x 71, x 72, x 73, x 74, x 75, x 76, x 77, x 78, x 79, x 80, x 81, x 82, x 83, x 84, x 85, x 86, x 87, x 88, x 89, x 90, x 91, x 92, x 93, x 94, x 95, x 96, x 97, x 98, x 99, x 100, x 101, x 102, x 103, x 104, x 105, x 106, x 107, x 108, x 109, x 110, x 111, x 112, x 113, x 114, x 115, x 116, x 117, x 118, x 119, x 120, x 121, x 122, x 123, x 124, x 125, x 126, x 127, x 128, x 129, x 130, x 131, x 132, x 133, x 134], []⟩ : Act) from rfl]
      rw [ed120]
      clear ed120
      go_wp2_with (
        refine wpList_makeV rfl 41 4 _ _ rfl (.bool false) 1 1 Try.underlying41 (by kernel_rfl) (j : Int) j rfl rfl rfl (by omega) (by omega) ?_
        intro wM hO
        have HO := Lib.hid hO
        clear hO)
      have HO2 := HO.out
      subst HO2
      exact ⟨_, rfl, Ext.al Ext.rfl' _, _, rfl, bools_madeU _ j _⟩
    | 3, _, _ =>
      refine ⟨fun o ho x wx hE hF hd => ?_⟩
      obtain rfl := Option.some.inj ho
      clear ho
      have ef13 : x 13 = (.int .i64 (j : Int)) := hF 13 (by decide +kernel)
      clear hd hF
      have HX := Lib.hid hE
      clear hE
      rw [show actOf _ x = (⟨#[x 0, x 1, x 2, x 3, x 4, x 5, x 6, x 7, x 8, x 9, x 10, x 11, x 12, x 13, x 14, x 15, x 16, x 17, x 18, x 19, x 20, x 21, x 22, x 23, x 24, x 25, x 26, x 27, x 28, x 29, x 30, x 31, x 32, x 33, x 34, x 35, x 36, x 37, x 38, x 39, x 40, x 41, x 42, x 43, x 44, x 45, x 46, x 47, x 48, x 49, x 50, x 51, x 52, x 53, x 54, x 55, x 56, x 57, x 58, x 59, x 60, x 61, x 62, x 63, x 64, x 65, x 66, x 67, x 68, x 69, x 70, x 71, x 72, x 73, x 74, x 75, x 76, x 77, x 78, x 79, x 80, x 81, x 82, x 83, x 84, x 85, x 86, x 87, x 88, x 89, x 90, x 91, x 92, x 93, x 94, x 95, x 96, x 97, x 98, x 99, x 100, x 101, x 102, x 103, x 104, x 105, x 106, x 107, x 108, x 109, x 110, x 111, x 112, x 113, x 114, x 115, x 116, x 117, x 118, x 119, x 120, x 121, x 122, x 123, x 124, x 125, x 126, x 127, x 128, x 129, x 130, x 131, x 132, x 133, x 134], []⟩ : Act) from rfl]
      rw [ef13]
      clear ef13
      go_wp2_with fail
      exact ⟨(.int .i64 (j : Int)), rfl, Ext.rfl', rfl⟩
    | 4, _, _ =>
      refine ⟨fun o ho x wx hE hF hd => ?_⟩
      obtain rfl := Option.some.inj ho
      clear ho
      have ed122 : x 122 = (.int .i64 (j : Int)) := hd 3 (by decide +kernel) _ _ rfl rfl
      clear hd hF
      have HX := Lib.hid hE
      clear hE
      rw [show actOf _ x = (⟨#[x 0, x 1, x 2, x 3, x 4, x 5, x 6, x 7, x 8, x 9, x 10, x 11, x 12, x 13, x 14, x 15, x 16, x 17, x 18, x 19, x 20, x 21, x 22, x 23, x 24, x 25, x 26, x 27, x 28, x 29, x 30, x 31, x 32, x 33, x 34, x 35, x 36, x 37, x 38, x 39, x 40, x 41, x 42, x 43, x 44, x 45, x 46, x 47, x 48, x 49, x 50, x 51, x 52, x 53, x 54, x 55, x 56, x 57, x 58, x 59, x 60, x 61, x 62, x 63, x 64, x 65, x 66, x 67, x 68, x 69, x 70, x 71, x 72, x 73, x 74, x 75, x 76, x 77, x 78, x 79, x 80, x 81, x 82, x 83, x 84, x 85, x 86, x 87, x 88, x 89, x 90, x 91, x 92, x 93, x 94, x 95, x 96, x 97, x 98, x 99, x 100, x 101, x 102, x 103, x 104, x 105, x 106, x 107, x 108, x 109, x 110, x 111, x 112, x 113, x 114, x 115, x 116, x 117, x 118, x 119, x 120, x 121, x 122, x 123, x 124, x 125, x 126, x 127, x 128, x 129, x 130, x 131, x 132, x 133, x 134], []⟩ : Act) from rfl]
      rw [ed122]
      clear ed122
      go_wp2_with (
        refine wpList_makeV rfl 41 4 _ _ rfl (.bool false) 1 1 Try.underlying41 (by kernel_rfl) (j : Int) j rfl rfl rfl (by omega) (by omega) ?_
        intro wM hO
        have HO := Lib.hid hO
        clear hO)
      have HO2 := HO.out
      subst HO2
      exact ⟨_, rfl, Ext.al Ext.rfl' _, _, rfl, bools_madeU _ j _⟩
    | 5, _, _ =>
      refine ⟨fun o ho x wx hE hF hd => ?_⟩
      obtain rfl := Option.some.inj ho
      clear ho
      have ef13 : x 13 = (.int .i64 (j : Int)) := hF 13 (by decide +kernel)
      clear hd hF
      have HX := Lib.hid hE
      clear hE
      rw [show actOf _ x = (⟨#[x 0, x 1, x 2, x 3, x 4, x 5, x 6, x 7, x 8, x 9, x 10, x 11, x 12, x 13, x 14, x 15, x 16, x 17, x 18, x 19, x 20, x 21, x 22, x 23, x 24, x 25, x 26, x 27, x 28, x 29, x 30, x 31, x 32, x 33, x 34, x 35, x 36, x 37, x 38, x 39, x 40, x 41, x 42, x 43, x 44, x 45, x 46, x 47, x 48, x 49, x 50, x 51, x 52, x 53, x 54, x 55, x 56, x 57, x 58, x 59, x 60, x 61, x 62, x 63, x 64, x 65, x 66, x 67, x 68, x 69, x 70, x 71, x 72, x 73, x 74, x 75, x 76, x 77, x 78, x 79, x 80, x 81, x 82, x 83, x 84, x 85, x 86, x 87, x 88, x 89, x 90, x 91, x 92, x 93, x 94, x 95, x 96, x 97, x 98, x 99, x 100, x 101, x 102, x 103, x 104, x 105, x 106, x 107, x 108, x 109, x 110, x 111, x 112, x 113, x 114, x 115, x 116, x 117, x 118, x 119, x 120, x 121, x 122, x 123, x 124, x 125, x 126, x 127, x 128, x 129, x 130, x 131, x 132, x 133, x 134], []⟩ : Act) from rfl]
      rw [ef13]
      clear ef13
      go_wp2_with fail
      exact ⟨(.int .i64 (j : Int)), rfl, Ext.rfl', rfl⟩
    | 6, _, _ =>
      refine ⟨fun o ho x wx hE hF hd => ?_⟩
      obtain rfl := Option.some.inj ho
      clear ho
      have ed124 : x 124 = (.int .i64 (j : Int)) := hd 5 (by decide +kernel) _ _ rfl rfl
      clear hd hF
      have HX := Lib.hid hE
      clear hE
      rw [show actOf _ x = (⟨#[x 0, x 1, x 2, x 3, x 4, x 5, x 6, x 7, x 8, x 9, x 10, x 11, x 12, x 13, x 14, x 15, x 16, x 17, x 18, x 19, x 20, x 21, x 22, x 23, x 24, x 25, x 26, x 27, x 28, x 29, x 30, x 31, x 32, x 33, x 34, x 35, x 36, x 37, x 38, x 39, x 40, x 41, x 42, x 43, x 44, x 45, x 46, x 47, x 48, x 49, x 50, x 51, x 52, x 53, x 54, x 55, x 56, x 57, x 58, x 59, x 60, x 61, x 62, x 63, x 64, x 65, x 66, x 67, x 68, x 69, x 70, x 71, x 72, x 73, x 74, x 75, x 76, x 77, x 78, x 79, x 80, x 81, x 82, x 83, x 84, x 85, x 86, x 87, x 88, x 89, x 90, x 91, x 92, x 93, x 94, x 95, x 96, x 97, x 98, x 99, x 100, x 101, x 102, x 103, x 104, x 105, x 106, x 107, x 108, x 109, x 110, x 111, x 112, x 113, x 114, x 115, x 116, x 117, x 118, x 119, x 120, x 121, x 122, x 123, x 124, x 125, x 126, x 127, x 128, x 129, x 130, x 131, x 132, x 133, x 134], []⟩ : Act) from rfl]
      rw [ed124]
      clear ed124
      go_wp2_with (
        refine wpList_makeV rfl 22 30 _ _ rfl (.agg #[.bool false, .slice none 0 0, .bool false, .slice none 0 0]) 4 64 Try.underlying22 (by kernel_rfl) (j : Int) j rfl rfl rfl (by omega) (by omega) ?_
        intro wM hO
        have HO := Lib.hid hO
        clear hO)
      have HO2 := HO.out
      subst HO2
      exact ⟨_, rfl, Ext.al Ext.rfl' _, _, rfl, (parts_zero _ 0 j _).qsK (by simp) (fun i hi => by simp [List.getD, hi]) (fun i hi => by rw [show (List.replicate j (0 : Rat)).getD i 0 = 0 by simp [List.getD, hi]]; exact sz_zero.mono (by omega))⟩
    | 7, _, _ =>
      refine ⟨fun o ho x wx hE hF hd => ?_⟩
      obtain rfl := Option.some.inj ho
      clear ho
      have ed119 : x 119 = (u.val A n c) := hd 0 (by decide +kernel) _ _ rfl rfl
      obtain ⟨ga, eq121, ha⟩ : ((.bools j) : ZK).holds (x 121) wx := hd 2 (by decide +kernel) _ _ rfl rfl
      obtain ⟨gb, eq123, hb⟩ : ((.bools j) : ZK).holds (x 123) wx := hd 4 (by decide +kernel) _ _ rfl rfl
      obtain ⟨gc, eq125, hc⟩ : ((.zeros j) : ZK).holds (x 125) wx := hd 6 (by decide +kernel) _ _ rfl rfl
      clear hd hF
      have HX := Lib.hid hE
      clear hE
      rw [show actOf _ x = (⟨#[x 0, x 1, x 2, x 3, x 4, x 5, x 6, x 7, x 8, x 9, x 10, x 11, x 12, x 13, x 14, x 15, x 16, x 17, x 18, x 19, x 20, x 21, x 22, x 23, x 24, x 25, x 26, x 27, x 28, x 29, x 30, x 31, x 32, x 33, x 34, x 35, x 36, x 37, x 38, x 39, x 40, x 41, x 42, x 43, x 44, x 45, x 46, x 47, x 48, x 49, x 50, x 51, x 52, x 53, x 54, x 55, x 56, x 57, x 58, x 59, x 60, x 61, x 62, x 63, x 64, x 65, x 66, x 67, x 68, x 69, x 70, x 71, x 72, x 73, x 74, x 75, x 76, x 77, x 78, x 79, x 80, x 81, x 82, x 83, x 84, x 85, x 86, x 87, x 88, x 89, x 90, x 91, x 92, x 93, x 94, x 95, x 96, x 97, x 98, x 99, x 100, x 101, x 102, x 103, x 104, x 105, x 106, x 107, x 108, x 109, x 110, x 111, x 112, x 113, x 114, x 115, x 116, x 117, x 118, x 119, x 120, x 121, x 122, x 123, x 124, x 125, x 126, x 127, x 128, x 129, x 130, x 131, x 132, x 133, x 134], []⟩ : Act) from rfl]
      rw [ed119, eq121, eq123, eq125]
      clear ed119 eq121 eq123 eq125
      have HA := Lib.hid (And.intro ha (And.intro hb hc))
      clear ha hb hc
      go_wp2_with fail
      refine (upcost_any u A n c (some ⟨ga, 0, none⟩) j j (List.replicate j false) (some ⟨gb, 0, none⟩) j j (List.replicate j false) (some ⟨gc, 0, none⟩) j j (List.replicate j 0) wx (HS.out.below (Ext.trans Ew1.out (Ext.trans Ew2.out (Ext.trans Ew3.out (Ext.trans Ew4.out (Ext.trans Ew7.out (Ext.trans Ew8.out (Ext.trans NJ1.out (Ext.trans EV3.out (Ext.trans Ew25.out (Ext.trans NJ3.out (Ext.trans Ew30.out (Ext.trans Ew31.out (Ext.trans Ew32.out (Ext.trans Ew33.out HX.out))))))))))))))) hn HA.out.1 (by unfold maxLen; omega) HA.out.2.1 (by unfold maxLen; omega) HA.out.2.2 (by unfold maxLen; omega)).mono ?_
      rintro e wy ⟨sf, Af, nf, cf, tf, Bf, mf, df, rfl, hQ, hE⟩
      have hoff := day_off HOK.out.1 (k := j) (by omega)
      rw [hoff.2] at hQ
      obtain ⟨rfl, rfl, rfl, rfl, h5, h6⟩ := qcan_zero_len hQ
      rw [hoff.1]
      have H56 := Lib.hid (And.intro h5 h6)
      clear hQ hoff h5 h6
      go_wp2_with fail
      exact ⟨_, rfl, hE, Af, cf, Bf, df, rfl, H56.out.1, H56.out.2⟩
    | 8, _, _ =>
      refine ⟨fun o ho x wx hE hF hd => ?_⟩
      obtain rfl := Option.some.inj ho
      clear ho
      obtain ⟨Af, cf, Bf, df, eq126, h5, h6⟩ : (.tup : ZK).holds (x 126) wx := hd 7 (by decide +kernel) _ _ rfl rfl
      clear hd hF
      have HX := Lib.hid hE
      clear hE
      rw [show actOf _ x = (⟨#[x 0, x 1, x 2, x 3, x 4, x 5, x 6, x 7, x 8, x 9, x 10, x 11, x 12, x 13, x 14, x 15, x 16, x 17, x 18, x 19, x 20, x 21, x 22, x 23, x 24, x 25, x 26, x 27, x 28, x 29, x 30, x 31, x 32, x 33, x 34, x 35, x 36, x 37, x 38, x 39, x 40, x 41, x 42, x 43, x 44, x 45, x 46, x 47, x 48, x 49, x 50, x 51, x 52, x 53, x 54, x 55, x 56, x 57, x 58, x 59, x 60, x 61, x 62, x 63, x 64, x 65, x 66, x 67, x 68, x 69, x 70, x 71, x 72, x 73, x 74, x 75, x 76, x 77, x 78, x 79, x 80, x 81, x 82, x 83, x 84, x 85, x 86, x 87, x 88, x 89, x 90, x 91, x 92, x 93, x 94, x 95, x 96, x 97, x 98, x 99, x 100, x 101, x 102, x 103, x 104, x 105, x 106, x 107, x 108, x 109, x 110, x 111, x 112, x 113, x 114, x 115, x 116, x 117, x 118, x 119, x 120, x 121, x 122, x 123, x 124, x 125, x 126, x 127, x 128, x 129, x 130, x 131, x 132, x 133, x 134], []⟩ : Act) from rfl]
      rw [eq126]
      clear eq126
      go_wp2_with fail
      exact ⟨_, rfl, Ext.rfl', Af, cf, Bf, df, rfl, h5, h6⟩
    | 9, _, _ =>
      refine ⟨fun o ho x wx hE hF hd => ?_⟩
      obtain rfl := Option.some.inj ho
      clear ho
      obtain ⟨Af, cf, Bf, df, eq118, h5, h6⟩ : (.tup : ZK).holds (x 118) wx := hd 8 (by decide +kernel) _ _ rfl rfl
      clear hd hF
      have HX := Lib.hid hE
      clear hE
      rw [show actOf _ x = (⟨#[x 0, x 1, x 2, x 3, x 4, x 5, x 6, x 7, x 8, x 9, x 10, x 11, x 12, x 13, x 14, x 15, x 16, x 17, x 18, x 19, x 20, x 21, x 22, x 23, x 24, x 25, x 26, x 27, x 28, x 29, x 30, x 31, x 32, x 33, x 34, x 35, x 36, x 37, x 38, x 39, x 40, x 41, x 42, x 43, x 44, x 45, x 46, x 47, x 48, x 49, x 50, x 51, x 52, x 53, x 54, x 55, x 56, x 57, x 58, x 59, x 60, x 61, x 62, x 63, x 64, x 65, x 66, x 67, x 68, x 69, x 70, x 71, x 72, x 73, x 74, x 75, x 76, x 77, x 78, x 79, x 80, x 81, x 82, x 83, x 84, x 85, x 86, x 87, x 88, x 89, x 90, x 91, x 92, x 93, x 94, x 95, x 96, x 97, x 98, x 99, x 100, x 101, x 102, x 103, x 104, x 105, x 106, x 107, x 108, x 109, x 110, x 111, x 112, x 113, x 114, x 115, x 116, x 117, x 118, x 119, x 120, x 121, x 122, x 123, x 124, x 125, x 126, x 127, x 128, x 129, x 130, x 131, x 132, x 133, x 134], []⟩ : Act) from rfl]
      rw [eq118]
      clear eq118
      go_wp2_with fail
      exact ⟨_, rfl, Ext.rfl', Af, cf, Bf, df, rfl, h5, h6⟩
    | 10, _, _ =>
      refine ⟨fun o ho x wx hE hF hd => ?_⟩
      obtain rfl := Option.some.inj ho
      clear ho
      obtain ⟨Af, cf, Bf, df, eq118, h5, h6⟩ : (.tup : ZK).holds (x 118) wx := hd 8 (by decide +kernel) _ _ rfl rfl
      clear hd hF
      have HX := Lib.hid hE
      clear hE
      rw [show actOf _ x = (⟨#[x 0, x 1, x 2, x 3, x 4, x 5, x 6, x 7, x 8, x 9, x 10, x 11, x 12, x 13, x 14, x 15, x 16, x 17, x 18, x 19, x 20, x 21, x 22, x 23, x 24, x 25, x 26, x 27, x 28, x 29, x 30, x 31, x 32, x 33, x 34, x 35, x 36, x 37, x 38, x 39, x 40, x 41, x 42, x 43, x 44, x 45, x 46, x 47, x 48, x 49, x 50, x 51, x 52, x 53, x 54, x 55, x 56, x 57, x 58, x 59, x 60, x 61, x 62, x 63, x 64, x 65, x 66, x 67, x 68, x 69, x 70, x 71, x 72, x 73, x 74, x 75, x 76, x 77, x 78, x 79, x 80, x 81, x 82, x 83, x 84, x 85, x 86, x 87, x 88, x 89, x 90, x 91, x 92, x 93, x 94, x 95, x 96, x 97, x 98, x 99, x 100, x 101, x 102, x 103, x 104, x 105, x 106, x 107, x 108, x 109, x 110, x 111, x 112, x 113, x 114, x 115, x 116, x 117, x 118, x 119, x 120, x 121, x 122, x 123, x 124, x 125, x 126, x 127, x 128, x 129, x 130, x 131, x 132, x 133, x 134], []⟩ : Act) from rfl]
      rw [eq118]
      clear eq118
      go_wp2_with fail
      exact ⟨_, rfl, Ext.rfl', rfl⟩
    | 11, _, _ =>
      refine ⟨fun o ho x wx hE hF hd => ?_⟩
      obtain rfl := Option.some.inj ho
      clear ho hd hF
      have HX := Lib.hid hE
      clear hE
      have hsz := HX.out.size
      have hcn := Cell4.new wx _ rfl (.bool false) (.slice none 0 0) (.bool false) (.slice none 0 0) 30
      have HCN := Lib.hid hcn
      clear hcn
      rw [show actOf _ x = (⟨#[x 0, x 1, x 2, x 3, x 4, x 5, x 6, x 7, x 8, x 9, x 10, x 11, x 12, x 13, x 14, x 15, x 16, x 17, x 18, x 19, x 20, x 21, x 22, x 23, x 24, x 25, x 26, x 27, x 28, x 29, x 30, x 31, x 32, x 33, x 34, x 35, x 36, x 37, x 38, x 39, x 40, x 41, x 42, x 43, x 44, x 45, x 46, x 47, x 48, x 49, x 50, x 51, x 52, x 53, x 54, x 55, x 56, x 57, x 58, x 59, x 60, x 61, x 62, x 63, x 64, x 65, x 66, x 67, x 68, x 69, x 70, x 71, x 72, x 73, x 74, x 75, x 76, x 77, x 78, x 79, x 80, x 81, x 82, x 83, x 84, x 85, x 86, x 87, x 88, x 89, x 90, x 91, x 92, x 93, x 94, x 95, x 96, x 97, x 98, x 99, x 100, x 101, x 102, x 103, x 104, x 105, x 106, x 107, x 108, x 109, x 110, x 111, x 112, x 113, x 114, x 115, x 116, x 117, x 118, x 119, x 120, x 121, x 122, x 123, x 124, x 125, x 126, x 127, x 128, x 129, x 130, x 131, x 132, x 133, x 134], []⟩ : Act) from rfl]
      go_wp2_with fail
      exact ⟨_, rfl, Ext.al Ext.rfl' _, _, rfl, hsz, HCN.out⟩
    | 12, _, h => exact absurd rfl h
    | 13, _, _ =>
      refine ⟨fun o ho x wx hE hF hd => ?_⟩
      obtain rfl := Option.some.inj ho
      clear ho
      have ed128 : x 128 = (.int .i64 0) := hd 10 (by decide +kernel) _ _ rfl rfl
      clear hd hF
      have HX := Lib.hid hE
      clear hE
      rw [show actOf _ x = (⟨#[x 0, x 1, x 2, x 3, x 4, x 5, x 6, x 7, x 8, x 9, x 10, x 11, x 12, x 13, x 14, x 15, x 16, x 17, x 18, x 19, x 20, x 21, x 22, x 23, x 24, x 25, x 26, x 27, x 28, x 29, x 30, x 31, x 32, x 33, x 34, x 35, x 36, x 37, x 38, x 39, x 40, x 41, x 42, x 43, x 44, x 45, x 46, x 47, x 48, x 49, x 50, x 51, x 52, x 53, x 54, x 55, x 56, x 57, x 58, x 59, x 60, x 61, x 62, x 63, x 64, x 65, x 66, x 67, x 68, x 69, x 70, x 71, x 72, x 73, x 74, x 75, x 76, x 77, x 78, x 79, x 80, x 81, x 82, x 83, x 84, x 85, x 86, x 87, x 88, x 89, x 90, x 91, x 92, x 93, x 94, x 95, x 96, x 97, x 98, x 99, x 100, x 101, x 102, x 103, x 104, x 105, x 106, x 107, x 108, x 109, x 110, x 111, x 112, x 113, x 114, x 115, x 116, x 117, x 118, x 119, x 120, x 121, x 122, x 123, x 124, x 125, x 126, x 127, x 128, x 129, x 130, x 131, x 132, x 133, x 134], []⟩ : Act) from rfl]
      rw [ed128]
      clear ed128
      go_wp2_with fail
      exact ⟨_, rfl, Ext.rfl', rfl⟩
    | q + 14, h, _ => exact absurd h (by simp)
  · intro i hi
    simp only [List.mem_cons, List.not_mem_nil, or_false] at hi
    rcases hi with rfl | rfl
    · skip
      refine ⟨fun o ho x wp wx hE hF hd => ?_⟩
      obtain rfl := Option.some.inj ho
      clear ho
      obtain ⟨Af, cf, Bf, df, eq118, h5, h6⟩ : (.tup : ZK).holds (x 118) wp := hd 8 (by decide +kernel) _ _ rfl rfl
      clear hd hF
      have HX := Lib.hid hE
      clear hE
      rw [show actOf _ x = (⟨#[x 0, x 1, x 2, x 3, x 4, x 5, x 6, x 7, x 8, x 9, x 10, x 11, x 12, x 13, x 14, x 15, x 16, x 17, x 18, x 19, x 20, x 21, x 22, x 23, x 24, x 25, x 26, x 27, x 28, x 29, x 30, x 31, x 32, x 33, x 34, x 35, x 36, x 37, x 38, x 39, x 40, x 41, x 42, x 43, x 44, x 45, x 46, x 47, x 48, x 49, x 50, x 51, x 52, x 53, x 54, x 55, x 56, x 57, x 58, x 59, x 60, x 61, x 62, x 63, x 64, x 65, x 66, x 67, x 68, x 69, x 70, x 71, x 72, x 73, x 74, x 75, x 76, x 77, x 78, x 79, x 80, x 81, x 82, x 83, x 84, x 85, x 86, x 87, x 88, x 89, x 90, x 91, x 92, x 93, x 94, x 95, x 96, x 97, x 98, x 99, x 100, x 101, x 102, x 103, x 104, x 105, x 106, x 107, x 108, x 109, x 110, x 111, x 112, x 113, x 114, x 115, x 116, x 117, x 118, x 119, x 120, x 121, x 122, x 123, x 124, x 125, x 126, x 127, x 128, x 129, x 130, x 131, x 132, x 133, x 134], []⟩ : Act) from rfl]
      rw [eq118]
      clear eq118
      go_wp2_with fail
      exact ⟨_, rfl, rfl, rfl⟩
    · skip
      refine ⟨fun o ho x wp wx hE hF hd => ?_⟩
      obtain rfl := Option.some.inj ho
      clear ho
      have ed128 : x 128 = (.int .i64 0) := hd 10 (by decide +kernel) _ _ rfl rfl
      clear hd hF
      have HX := Lib.hid hE
      clear hE
      rw [show actOf _ x = (⟨#[x 0, x 1, x 2, x 3, x 4, x 5, x 6, x 7, x 8, x 9, x 10, x 11, x 12, x 13, x 14, x 15, x 16, x 17, x 18, x 19, x 20, x 21, x 22, x 23, x 24, x 25, x 26, x 27, x 28, x 29, x 30, x 31, x 32, x 33, x 34, x 35, x 36, x 37, x 38, x 39, x 40, x 41, x 42, x 43, x 44, x 45, x 46, x 47, x 48, x 49, x 50, x 51, x 52, x 53, x 54, x 55, x 56, x 57, x 58, x 59, x 60, x 61, x 62, x 63, x 64, x 65, x 66, x 67, x 68, x 69, x 70, x 71, x 72, x 73, x 74, x 75, x 76, x 77, x 78, x 79, x 80, x 81, x 82, x 83, x 84, x 85, x 86, x 87, x 88, x 89, x 90, x 91, x 92, x 93, x 94, x 95, x 96, x 97, x 98, x 99, x 100, x 101, x 102, x 103, x 104, x 105, x 106, x 107, x 108, x 109, x 110, x 111, x 112, x 113, x 114, x 115, x 116, x 117, x 118, x 119, x 120, x 121, x 122, x 123, x 124, x 125, x 126, x 127, x 128, x 129, x 130, x 131, x 132, x 133, x 134], []⟩ : Act) from rfl]
      rw [ed128]
      clear ed128
      go_wp2_with fail
      exact ⟨_, rfl, rfl, rfl⟩
  · refine ⟨fun o ho x wx hE hF hd => ?_⟩
    obtain rfl := Option.some.inj ho
    clear ho
    obtain ⟨gz, eq19, hgz, hcz⟩ : (ZK.cell w33.heap.size).holds (x 19) wx := hd 11 _ _ (by decide) rfl rfl
    obtain ⟨Af, cf, Bf, df, eq127, h5, h6⟩ : (ZK.agg).holds (x 127) wx := hd 9 _ _ (by decide) rfl rfl
    clear hd hF hE
    have HCZ := Lib.hid hcz
    have H56 := Lib.hid (And.intro h5 h6)
    clear hcz h5 h6 hgz
    have HS19 : Hid (x 19 = .pointer (some ⟨gz, 0, none⟩)) := eq19
    have HS127 : Hid (x 127 = .agg #[.bool false, .slice Af 0 cf, .bool false, .slice Bf 0 df]) := eq127
    obtain ⟨y19, hy19⟩ : ∃ v, x 19 = v := ⟨_, rfl⟩
    obtain ⟨y127, hy127⟩ : ∃ v, x 127 = v := ⟨_, rfl⟩
    rw [show actOf _ x = (⟨#[x 0, x 1, x 2, x 3, x 4, x 5, x 6, x 7, x 8, x 9, x 10, x 11, x 12, x 13, x 14, x 15, x 16, x 17, x 18, x 19, x 20, x 21, x 22, x 23, x 24, x 25, x 26, x 27, x 28, x 29, x 30, x 31, x 32, x 33, x 34, x 35, x 36, x 37, x 38, x 39, x 40, x 41, x 42, x 43, x 44, x 45, x 46, x 47, x 48, x 49, x 50, x 51, x 52, x 53, x 54, x 55, x 56, x 57, x 58, x 59, x 60, x 61, x 62, x 63, x 64, x 65, x 66, x 67, x 68, x 69, x 70, x 71, x 72, x 73, x 74, x 75, x 76, x 77, x 78, x 79, x 80, x 81, x 82, x 83, x 84, x 85, x 86, x 87, x 88, x 89, x 90, x 91, x 92, x 93, x 94, x 95, x 96, x 97, x 98, x 99, x 100, x 101, x 102, x 103, x 104, x 105, x 106, x 107, x 108, x 109, x 110, x 111, x 112, x 113, x 114, x 115, x 116, x 117, x 118, x 119, x 120, x 121, x 122, x 123, x 124, x 125, x 126, x 127, x 128, x 129, x 130, x 131, x 132, x 133, x 134], []⟩ : Act) from rfl]
    rw [eq19, eq127]
    clear eq19 eq127 hy19 hy127
    go_wp2_with (
      refine wpList_storeV rfl 30 _ _ rfl gz 0 [.bool false, .slice Af 0 cf, .bool false, .slice Bf 0 df] rfl rfl HCZ.out.there (by kernel_rfl) rfl ?_
      intro wS hp
      have HPV := Lib.hid hp
      clear hp)
    exact ⟨rfl, gz, Af, cf, Bf, df, rfl, rfl, H56.out.1, H56.out.2, HPV.out.touch, HCZ.out.putVs HPV.out⟩
  intro x w34 w35 hE hF hV hS
  have ez20 : x 20 = .int .i64 0 := hV 13 _ _ rfl rfl
  obtain ⟨gy, eq19, hgy, -⟩ : (ZK.cell w33.heap.size).holds (x 19) w34 := hV 11 _ _ rfl rfl
  obtain ⟨gz, Af, cf, Bf, df, e19, -, h5, h6, hT, hC⟩ := hS
  rw [eq19] at e19
  obtain rfl : gy = gz := by injection e19 with e19; injection e19 with e19; injection e19
  have hE3 := hT.ext _ hE hgy
  have HCL := Lib.hid hC
  have H56 := Lib.hid (And.intro h5 h6)
  clear hV hF hT hC e19 h5 h6 hE hgy
  have Ew35 := Lib.hid hE3
  clear hE3
  rw [show actOf _ x = (⟨#[x 0, x 1, x 2, x 3, x 4, x 5, x 6, x 7, x 8, x 9, x 10, x 11, x 12, x 13, x 14, x 15, x 16, x 17, x 18, x 19, x 20, x 21, x 22, x 23, x 24, x 25, x 26, x 27, x 28, x 29, x 30, x 31, x 32, x 33, x 34, x 35, x 36, x 37, x 38, x 39, x 40, x 41, x 42, x 43, x 44, x 45, x 46, x 47, x 48, x 49, x 50, x 51, x 52, x 53, x 54, x 55, x 56, x 57, x 58, x 59, x 60, x 61, x 62, x 63, x 64, x 65, x 66, x 67, x 68, x 69, x 70, x 71, x 72, x 73, x 74, x 75, x 76, x 77, x 78, x 79, x 80, x 81, x 82, x 83, x 84, x 85, x 86, x 87, x 88, x 89, x 90, x 91, x 92, x 93, x 94, x 95, x 96, x 97, x 98, x 99, x 100, x 101, x 102, x 103, x 104, x 105, x 106, x 107, x 108, x 109, x 110, x 111, x 112, x 113, x 114, x 115, x 116, x 117, x 118, x 119, x 120, x 121, x 122, x 123, x 124, x 125, x 126, x 127, x 128, x 129, x 130, x 131, x 132, x 133, x 134], []⟩ : Act) from rfl, ez20, eq19]
  clear ez20 eq19
  obtain ⟨⟨l0, l1, l2, l3⟩, -, lz⟩ := HCL.out
  have hb9 : ((0 : Int) == 0) = true := by decide
  go_wp2_with fail
  refine (is_any false Af 0 cf false Bf 0 df 0 0 w35 ⟨qis0 _ H56.out.1 H56.out.2, by omega, by omega⟩ (by omega)).mono ?_
  rintro e wq ⟨rfl, hE⟩
  rw [decide_eq_true (show (0 : Rat) = ((0 : Int) : Rat) from rfl)]
  have HEQ := Lib.hid hE
  clear hE
  go_wp2_with fail
  go_ret
  exact ⟨rfl, Ext.trans (Ext.trans Ew1.out (Ext.trans Ew2.out (Ext.trans Ew3.out (Ext.trans Ew4.out (Ext.trans Ew7.out (Ext.trans Ew8.out (Ext.trans NJ1.out (Ext.trans EV3.out (Ext.trans Ew25.out (Ext.trans NJ3.out (Ext.trans Ew30.out (Ext.trans Ew31.out (Ext.trans Ew32.out (Ext.trans Ew33.out Ew35.out)))))))))))))) HEQ.out⟩
end Go.Proofs.Ytfokholpgakjpaa
