/- The walk of the law PathDynamicProgramming. Printed by gen_pdyn.py. -/
import Derived.Test.YtjinpfnefeiooaaVBox
namespace Go.Proofs.Ytjinpfnefeiooaa
open Go.RowKit

theorem getD_dropP {α : Type} (xs : List α) (j i : Nat) (d : α) : (xs.drop j).getD i d = xs.getD (j + i) d := by simp [List.getD, List.getElem?_drop]
theorem getD_takeP {α : Type} (xs : List α) {j i : Nat} (d : α) (h : i < j) : (xs.take j).getD i d = xs.getD i d := by simp [List.getD, List.getElem?_take, h]
theorem BoolsAt.takeP {w : World} {A : Option Addr} {n : Nat} {xs : List Bool} (h : BoolsAt w A n xs) {j : Nat} (hj : j ≤ n) : BoolsAt w A j (xs.take j) := by
  refine ⟨by rw [List.length_take, h.1]; omega, fun hn => ?_⟩
  obtain ⟨b, off, ha, hlt, hc⟩ := h.2 (by omega)
  exact ⟨b, off, ha, hlt, fun i hi => by rw [getD_takeP _ _ hi]; exact hc i (by omega)⟩
theorem BoolsAt.dropP {w : World} {b off : Nat} {n : Nat} {xs : List Bool} (h : BoolsAt w (some ⟨b, off, none⟩) n xs) {j : Nat} (hj : j ≤ n) : BoolsAt w (some ⟨b, off + j, none⟩) (n - j) (xs.drop j) := by
  refine ⟨by rw [List.length_drop, h.1], fun hn => ?_⟩
  obtain ⟨b', off', ha, hlt, hc⟩ := h.2 (by omega)
  injection ha with ha
  injection ha with ha1 ha2
  subst ha1 ha2
  exact ⟨b, off + j, rfl, hlt, fun i hi => by rw [getD_dropP, Nat.add_assoc]; exact hc (j + i) (by omega)⟩
theorem QsAt.takeP {w : World} {P : Option Addr} {n : Nat} {ps : List Rat} (h : QsAt w P n ps) {j : Nat} (hj : j ≤ n) : QsAt w P j (ps.take j) := by
  refine ⟨by rw [List.length_take, h.1]; omega, fun hn => ?_⟩
  obtain ⟨b, off, ha, hlt, hc⟩ := h.2 (by omega)
  refine ⟨b, off, ha, hlt, fun i hi => ?_⟩
  obtain ⟨s, A, m, c, t, B, k, d, h0, h1, h2, h3, h4, h5⟩ := hc i (by omega)
  exact ⟨s, A, m, c, t, B, k, d, h0, h1, h2, h3, by rw [getD_takeP _ _ hi]; exact h4, h5⟩
theorem QsAt.dropP {w : World} {b off n : Nat} {ps : List Rat} (h : QsAt w (some ⟨b, off, none⟩) n ps) {j : Nat} (hj : j ≤ n) : QsAt w (some ⟨b, off + j * 4, none⟩) (n - j) (ps.drop j) := by
  refine ⟨by rw [List.length_drop, h.1], fun hn => ?_⟩
  obtain ⟨b', off', ha, hlt, hc⟩ := h.2 (by omega)
  injection ha with ha
  injection ha with ha1 ha2
  subst ha1 ha2
  refine ⟨b, off + j * 4, rfl, hlt, fun i hi => ?_⟩
  obtain ⟨s, A, m, c, t, B, k, d, h0, h1, h2, h3, h4, h5⟩ := hc (j + i) (by omega)
  have e : off + j * 4 + i * 4 = off + (j + i) * 4 := by rw [Nat.add_mul, Nat.add_assoc]
  exact ⟨s, A, m, c, t, B, k, d, by rw [e]; exact h0, by rw [e]; exact h1, by rw [e]; exact h2, by rw [e]; exact h3, by rw [getD_dropP]; exact h4, h5⟩
theorem take_snocB (xs : List Bool) {j : Nat} (h : j < xs.length) : xs.take (j + 1) = xs.take j ++ [xs.getD j false] := by
  rw [List.take_add_one]
  simp [List.getD, h]
theorem stAfter_snoc (u : U) : ∀ (xs : List Bool) (s : Int) (b : Bool), u.stAfter s (xs ++ [b]) = u.next (u.stAfter s xs) b
  | [], _, _ => rfl
  | x :: xs, s, b => stAfter_snoc u xs (u.next s x) b
theorem feas_takeP {u : U} : ∀ {xs : List Bool} {s : Int}, u.feasFrom s xs = true → ∀ j, u.feasFrom s (xs.take j) = true
  | [], _, _, j => by simp [U.feasFrom]
  | x :: xs, s, h, 0 => rfl
  | x :: xs, s, h, j + 1 => by
    obtain ⟨h1, h2⟩ := feas_cons h
    exact feas_mk h1 (feas_takeP h2 j)
theorem U8.ofP {n : Int} (h : (Lit.int .u8 n).wf = true) : 0 ≤ n ∧ n ≤ 255 := by
  have h' := h
  simp [Lit.wf, IntKind.min, IntKind.max, IntKind.signed, IntKind.bits] at h'
  exact ⟨by omega, by omega⟩
theorem bools_touch {g : Nat} {w w' : World} {A : Option Addr} {n : Nat} {xs : List Bool} (h : BoolsAt w A n xs) (ht : Touch g w w') (hne : ∀ b, (∃ off, A = some ⟨b, off, none⟩) → b ≠ g) : BoolsAt w' A n xs := by
  refine ⟨h.1, fun hn => ?_⟩
  obtain ⟨b, off, ha, hlt, hc⟩ := h.2 hn
  exact ⟨b, off, ha, by rw [ht.size]; exact hlt, fun i hi => by rw [ht.cell (p := ⟨b, off + i, none⟩) (hne b ⟨off, ha⟩)]; exact hc i hi⟩
theorem feas_last {u : U} : ∀ {xs : List Bool} {s s' : Int} {b : Bool}, u.feasFrom s (xs ++ [b]) = true → s' = u.stAfter s xs → u.next s' b ≠ 0
  | [], s, s', b, h, e => by
    subst e
    exact (feas_cons h).1
  | x :: xs, s, s', b, h, e => feas_last (feas_cons h).2 e
/-- What the law says, of the state s after the first j hours. -/
theorem dyn_facts {u : U} {ps : List Rat} (h0 : u.pchk ps.length = 0) {j : Nat} (hj : j ≤ ps.length) {s : Int} (hs : s = u.stAfter u.init ((u.path ps u.init).take j)) :
    u.profE (ps.take j) ((u.path ps u.init).take j) = 0 ∧ (u.setOn s).pchk (ps.drop j).length = 0 ∧ (u.setOn s).path (ps.drop j) (u.setOn s).init = (u.path ps u.init).drop j ∧
    u.bestV ps = u.profV (ps.take j) ((u.path ps u.init).take j) + (u.setOn s).bestV (ps.drop j) := by
  obtain ⟨hok, h8⟩ := pchk_zero.1 h0
  have hst := U.init_state (U.good hok)
  obtain ⟨a1, a2, a3, a4⟩ := path_drop hok j ps u.init hst hj
  rw [← hs] at a1 a2 a4
  have hl := (best_facts h0).2.2.2
  have hok2 := setOn_ok hok a1
  have hp1 : u.pchk (ps.take j).length = 0 := pchk_zero.2 ⟨hok, by rw [List.length_take]; omega⟩
  have hp2 : (u.setOn s).pchk (ps.drop j).length = 0 := pchk_zero.2 ⟨hok2, by rw [List.length_drop]; omega⟩
  have hf := feas_of hok a3
  have hlt : ((u.path ps u.init).take j).length = (ps.take j).length := by rw [List.length_take, List.length_take, hl]
  have hE : u.profE (ps.take j) ((u.path ps u.init).take j) = 0 := by unfold U.profE; rw [hp1, if_neg (by simp), if_neg (by rw [hf]; simp only [hlt]; simp)]
  refine ⟨hE, hp2, ?_, ?_⟩
  · rw [setOn_init hok a1, setOn_path hok a1, a2]
  · unfold U.bestV U.profV
    rw [if_pos h0, if_pos hE, if_pos hp2, prof_pv hf hlt, setOn_init hok a1, setOn_dp hok a1, a4]
set_option maxRecDepth 100000 in
set_option maxHeartbeats 16000000 in
theorem pdyn_any (u : U) (A : Option Addr) (n c : Nat) (P : Option Addr) (k cp : Nat) (ps : List Rat) (ln : Nat → Nat × Nat) (z : Int) (w : World) (hs : StepsAt w A n u.steps) (hn : n ≤ maxLen) (hp : QsRaw w P k ps ln) (hk : k ≤ maxLen) (hz : 0 ≤ z ∧ z ≤ 255) (hkc : k ≤ cp) :
    Calls Try.prog 5 #[u.val A n c, .slice P k cp, .int .u8 z] w fun e w' => e = .returned (.bool true) ∧ Ext w w' := by
  have HS := Lib.hid hs
  have HP := Lib.hid hp
  have HPL := Lib.hid hp.1
  clear hs hp
  have HKM := Lib.hid hk
  obtain ⟨hz0, hz1⟩ := hz
  obtain ⟨zn, rfl⟩ : ∃ zn : Nat, z = (zn : Int) := ⟨z.toNat, by omega⟩
  have HKC := Lib.hid hkc
  go_enter Try.func5, Try.ntmps5
  go_wp2_with fail
  have k0 := UBox.new (w) (w.heap.size) (by simp) u A n c 24
  have hE : Ext w ((w).alloc (.cells #[.int .i64 u.bus, .int .i64 u.mn, .slice A n c, .int .i64 u.up, .int .i64 u.down, .int .i64 u.start, .int .i64 u.idle, .int .i64 u.spin, .int .i64 u.on] 24)) := (Ext.al Ext.rfl' _)
  have hsz : ((w).alloc (.cells #[.int .i64 u.bus, .int .i64 u.mn, .slice A n c, .int .i64 u.up, .int .i64 u.down, .int .i64 u.start, .int .i64 u.idle, .int .i64 u.spin, .int .i64 u.on] 24)).heap.size = w.heap.size + 1 := by simp
  generalize (w).alloc (.cells #[.int .i64 u.bus, .int .i64 u.mn, .slice A n c, .int .i64 u.up, .int .i64 u.down, .int .i64 u.start, .int .i64 u.idle, .int .i64 u.spin, .int .i64 u.on] 24) = w1 at *
  have SZw1 := Lib.hid hsz
  clear hsz
  have Ew1 := Lib.hid hE
  clear hE
  have Ku := Lib.hid k0
  clear k0
  refine (long27_any u A n c P k cp ps ln none 0 0 w1 (HP.out.ext Ew1.out) hk).mono ?_
  rintro e w2 ⟨⟨bl, rfl, hbl⟩, hE⟩
  have Ew2 := Lib.hid hE
  clear hE
  have HLN := Lib.hid hbl
  clear hbl
  cases bl
  rotate_left
  · skip
    go_wp2_with fail
    refine (awake_any w2).mono ?_
    rintro e wz ⟨rfl, hEz⟩
    go_wp2_with fail
    go_ret
    exact ⟨rfl, Ext.trans (Ext.trans Ew1.out Ew2.out) hEz⟩
  obtain ⟨hn100, hm100, hk30, hl6⟩ := HLN.out rfl
  clear HLN
  have HPA := Lib.hid (HP.out.at hl6)
  have HS6 : Hid (∀ i, i < k → Sz 6 (ps.getD i 0)) := fun i hi => HP.out.sz6 hl6 hi
  have HSZ : Hid (∀ i, i < ps.length → Sz 1000 (ps.getD i 0)) := fun i hi => (HS6.out i (by rw [← HPL.out]; exact hi)).mono (by omega)
  clear hl6
  go_wp2_with fail
  refine (awake_any w2).mono ?_
  rintro e w3 ⟨rfl, hE⟩
  have Ew3 := Lib.hid hE
  clear hE
  by_cases h0 : u.pchk ps.length = 0
  rotate_left
  · obtain ⟨ck, hck⟩ : ∃ v, u.pchk ps.length = v := ⟨_, rfl⟩
    have hb : (ck != 0) = true := by rw [← hck]; simp [h0]
    have HCK := Lib.hid hck
    have HNZ := Lib.hid h0
    clear h0 hck
    have zu := World.block_lt_of_cell? _ _ (Ku.out.ext (Ext.trans Ew2.out Ew3.out)).1
    have xu0 := (Ku.out.ext (Ext.trans Ew2.out Ew3.out)).1
    have xu1 := (Ku.out.ext (Ext.trans Ew2.out Ew3.out)).2.1
    have xu2 := (Ku.out.ext (Ext.trans Ew2.out Ew3.out)).2.2.1
    have xu3 := (Ku.out.ext (Ext.trans Ew2.out Ew3.out)).2.2.2.1
    have xu4 := (Ku.out.ext (Ext.trans Ew2.out Ew3.out)).2.2.2.2.1
    have xu5 := (Ku.out.ext (Ext.trans Ew2.out Ew3.out)).2.2.2.2.2.1
    have xu6 := (Ku.out.ext (Ext.trans Ew2.out Ew3.out)).2.2.2.2.2.2.1
    have xu7 := (Ku.out.ext (Ext.trans Ew2.out Ew3.out)).2.2.2.2.2.2.2.1
    have xu8 := (Ku.out.ext (Ext.trans Ew2.out Ew3.out)).2.2.2.2.2.2.2.2
    go_wp2_with fail
    clear zu xu0 xu1 xu2 xu3 xu4 xu5 xu6 xu7 xu8
    refine (best_any u A n c P k cp ps w3 (HS.out.below (Ext.trans Ew1.out (Ext.trans Ew2.out Ew3.out))) hn (HPA.out.ext (Ext.trans Ew1.out (Ext.trans Ew2.out Ew3.out))) HKM.out).mono ?_
    rintro e w4 ⟨vB, sx, Ax, nx, cx, tx, Bx, mx, dx, rfl, hQ, hE, hno, hrow⟩
    have Ew4 := Lib.hid hE
    clear hE
    obtain rfl := hno HNZ.out
    clear hno hrow
    rw [HCK.out]
    rw [bestV_bad HNZ.out] at hQ
    have Qx := Lib.hid hQ
    clear hQ
    go_wp2_with fail
    have kw5 := Cell4.new w4 _ rfl (.bool sx) (.slice Ax nx cx) (.bool tx) (.slice Bx mx dx) 34
    have hE : Ext w4 (w4.alloc (.cells #[.bool sx, .slice Ax nx cx, .bool tx, .slice Bx mx dx] 34)) := Ext.al Ext.rfl' _
    generalize w4.alloc (.cells #[.bool sx, .slice Ax nx cx, .bool tx, .slice Bx mx dx] 34) = w5 at *
    have Ew5 := Lib.hid hE
    clear hE
    have Kx := Lib.hid kw5
    clear kw5
    refine (qsign_any sx Ax nx cx tx Bx mx dx _ w5 (Qx.out.ext Ew5.out).is).mono ?_
    rintro e w6 ⟨rfl, hE⟩
    have Ew6 := Lib.hid hE
    clear hE
    rw [sign_zero rfl]
    go_wp2_with fail
    go_ret
    exact ⟨rfl, (Ext.trans Ew1.out (Ext.trans Ew2.out (Ext.trans Ew3.out (Ext.trans Ew4.out (Ext.trans Ew5.out Ew6.out)))))⟩
  have HC0 := Lib.hid h0
  have HBF := Lib.hid (best_facts h0)
  have HOK := Lib.hid (pchk_zero.1 h0).1
  have h8 : k ≤ 8 := by rw [← HPL.out]; exact (pchk_zero.1 h0).2
  clear h0
  have zu := World.block_lt_of_cell? _ _ (Ku.out.ext (Ext.trans Ew2.out Ew3.out)).1
  have xu0 := (Ku.out.ext (Ext.trans Ew2.out Ew3.out)).1
  have xu1 := (Ku.out.ext (Ext.trans Ew2.out Ew3.out)).2.1
  have xu2 := (Ku.out.ext (Ext.trans Ew2.out Ew3.out)).2.2.1
  have xu3 := (Ku.out.ext (Ext.trans Ew2.out Ew3.out)).2.2.2.1
  have xu4 := (Ku.out.ext (Ext.trans Ew2.out Ew3.out)).2.2.2.2.1
  have xu5 := (Ku.out.ext (Ext.trans Ew2.out Ew3.out)).2.2.2.2.2.1
  have xu6 := (Ku.out.ext (Ext.trans Ew2.out Ew3.out)).2.2.2.2.2.2.1
  have xu7 := (Ku.out.ext (Ext.trans Ew2.out Ew3.out)).2.2.2.2.2.2.2.1
  have xu8 := (Ku.out.ext (Ext.trans Ew2.out Ew3.out)).2.2.2.2.2.2.2.2
  go_wp2_with fail
  clear zu xu0 xu1 xu2 xu3 xu4 xu5 xu6 xu7 xu8
  refine (best_any u A n c P k cp ps w3 (HS.out.below (Ext.trans Ew1.out (Ext.trans Ew2.out Ew3.out))) hn (HPA.out.ext (Ext.trans Ew1.out (Ext.trans Ew2.out Ew3.out))) HKM.out).mono ?_
  rintro e w7 ⟨vB, sx, Ax, nx, cx, tx, Bx, mx, dx, rfl, hQ, hE, hno, hrow⟩
  have Ew7 := Lib.hid hE
  clear hE
  obtain ⟨gB, rfl, hgB0, hRB, hcB⟩ := hrow HC0.out
  clear hno hrow
  rw [HC0.out, HPL.out]
  rw [HPL.out] at hRB hcB
  have HBB := Lib.hid (best_bools ((best_facts HC0.out).2.2.2.trans HPL.out) hRB hcB)
  have Qx := Lib.hid hQ
  clear hRB hcB hQ hgB0
  have hkk : ((k : Int) != (k : Int)) = false := by simp
  have hkk2 : (k != k) = false := by simp
  obtain ⟨j, hj⟩ : ∃ v, zn % (k + 1) = v := ⟨_, rfl⟩
  have hjk : j ≤ k := by rw [← hj]; have := Nat.mod_lt zn (show 0 < k + 1 by omega); omega
  have hje : (zn : Int) % ((k : Int) + 1) = (j : Int) := by rw [← hj]; simp
  clear hj
  have hszx : (w7.alloc (.cells #[.bool sx, .slice Ax nx cx, .bool tx, .slice Bx mx dx] 34)).heap.size = w7.heap.size + 1 := by simp
  have zu := World.block_lt_of_cell? _ _ (Ku.out.ext (Ext.trans Ew2.out (Ext.trans Ew3.out Ew7.out))).1
  have xu0 := (Ku.out.ext (Ext.trans Ew2.out (Ext.trans Ew3.out Ew7.out))).1
  have xu1 := (Ku.out.ext (Ext.trans Ew2.out (Ext.trans Ew3.out Ew7.out))).2.1
  have xu2 := (Ku.out.ext (Ext.trans Ew2.out (Ext.trans Ew3.out Ew7.out))).2.2.1
  have xu3 := (Ku.out.ext (Ext.trans Ew2.out (Ext.trans Ew3.out Ew7.out))).2.2.2.1
  have xu4 := (Ku.out.ext (Ext.trans Ew2.out (Ext.trans Ew3.out Ew7.out))).2.2.2.2.1
  have xu5 := (Ku.out.ext (Ext.trans Ew2.out (Ext.trans Ew3.out Ew7.out))).2.2.2.2.2.1
  have xu6 := (Ku.out.ext (Ext.trans Ew2.out (Ext.trans Ew3.out Ew7.out))).2.2.2.2.2.2.1
  have xu7 := (Ku.out.ext (Ext.trans Ew2.out (Ext.trans Ew3.out Ew7.out))).2.2.2.2.2.2.2.1
  have xu8 := (Ku.out.ext (Ext.trans Ew2.out (Ext.trans Ew3.out Ew7.out))).2.2.2.2.2.2.2.2
  go_wp2_with fail
  clear zu xu0 xu1 xu2 xu3 xu4 xu5 xu6 xu7 xu8
  have kw8 := Cell4.new w7 _ rfl (.bool sx) (.slice Ax nx cx) (.bool tx) (.slice Bx mx dx) 34
  have hE : Ext w7 (w7.alloc (.cells #[.bool sx, .slice Ax nx cx, .bool tx, .slice Bx mx dx] 34)) := Ext.al Ext.rfl' _
  generalize w7.alloc (.cells #[.bool sx, .slice Ax nx cx, .bool tx, .slice Bx mx dx] 34) = w8 at *
  have Ew8 := Lib.hid hE
  clear hE
  have Kx := Lib.hid kw8
  clear kw8
  have SZX := Lib.hid hszx
  clear hszx
  have kv := UBox.new w8 (w8.heap.size) rfl u A n c 24
  have rv := rowN_new w8 #[.int .i64 u.bus, .int .i64 u.mn, .slice A n c, .int .i64 u.up, .int .i64 u.down, .int .i64 u.start, .int .i64 u.idle, .int .i64 u.spin, .int .i64 u.on] 24
  have hE : Ext w8 (w8.alloc (.cells #[.int .i64 u.bus, .int .i64 u.mn, .slice A n c, .int .i64 u.up, .int .i64 u.down, .int .i64 u.start, .int .i64 u.idle, .int .i64 u.spin, .int .i64 u.on] 24)) := Ext.al Ext.rfl' _
  rw [SZX.out] at kv rv
  generalize w8.alloc (.cells #[.int .i64 u.bus, .int .i64 u.mn, .slice A n c, .int .i64 u.up, .int .i64 u.down, .int .i64 u.start, .int .i64 u.idle, .int .i64 u.spin, .int .i64 u.on] 24) = w9 at *
  have Ew9 := Lib.hid hE
  clear hE
  have KV := Lib.hid kv
  have RV := Lib.hid rv
  clear kv rv
  refine (initial_any u A n c w9 (HS.out.below (Ext.trans Ew1.out (Ext.trans Ew2.out (Ext.trans Ew3.out (Ext.trans Ew7.out (Ext.trans Ew8.out Ew9.out)))))) hn).mono ?_
  rintro e w10 ⟨rfl, hE⟩
  have Ew10 := Lib.hid hE
  clear hE
  obtain ⟨s0, hs0⟩ : ∃ v, u.init = v := ⟨_, rfl⟩
  rw [show u.initial = s0 by unfold U.initial; rw [if_pos HOK.out, hs0]]
  have HST : Hid (u.isState s0 = true) := by unfold Hid; rw [← hs0]; exact U.init_state (U.good HOK.out)
  have HS0 := Lib.hid hs0
  clear hs0
  have HFP : Hid (u.feasFrom s0 (u.path ps s0) = true ∧ (u.path ps s0).length = k) := by unfold Hid; rw [← HS0.out]; exact ⟨(feas_parts HBF.out.2.2.1).2, HBF.out.2.2.2.trans HPL.out⟩
  go_wp2_with fail
  go_loopw [12, 13] (fun st i wr => ∃ (q : Nat) (s : Int), q ≤ j ∧ i = .int .i64 q ∧ st = .int .i64 s ∧ Hid (u.isState s = true ∧ s = u.stAfter s0 ((u.path ps s0).take q)) ∧ Hid (Ext w10 wr)) (fun _ i _ => j - (intOf i).toNat)
  case atStart => exact ⟨0, s0, by omega, rfl, rfl, ⟨HST.out, rfl⟩, Ext.rfl'⟩
  case round =>
    obtain ⟨q, s, hq, rfl, rfl, HSS, HEr⟩ := hrel
    by_cases hlt : q < j
    · have hbv : decide ((q : Int) < (j : Int)) = true := by simp; omega
      have hbv2 : decide (q < j) = true := by simp; omega
      have hq0 : (0 : Int) ≤ (q : Int) := by omega
      have hq1 : (q : Int) < (k : Int) := by omega
      obtain ⟨b9, o9, h9, -, hcB⟩ := (HBB.out.below (Ext.trans Ew8.out (Ext.trans Ew9.out (Ext.trans Ew10.out HEr.out)))).2 (by omega)
      injection h9 with h9
      injection h9 with h91 h92
      subst h91 h92
      have hcb := hcB q (by omega)
      rw [Nat.zero_add, HS0.out] at hcb
      have HCB := Lib.hid hcb
      clear hcB hcb
      have HNX : Hid (u.isState (u.next s ((u.path ps s0).getD q false)) = true ∧ u.next s ((u.path ps s0).getD q false) = u.stAfter s0 ((u.path ps s0).take (q + 1))) := by
        unfold Hid
        have hl := HFP.out.2
        have e := take_snocB (u.path ps s0) (show q < (u.path ps s0).length by rw [hl]; omega)
        have hf := feas_takeP HFP.out.1 (q + 1)
        rw [e] at hf ⊢
        rw [stAfter_snoc, ← HSS.out.2]
        refine ⟨?_, rfl⟩
        have hne : u.next s ((u.path ps s0).getD q false) ≠ 0 := feas_last hf HSS.out.2
        exact U.next_state (U.good HOK.out) HSS.out.1 hne
      have HNG : Hid (u.nextG s ((u.path ps s0).getD q false) = u.next s ((u.path ps s0).getD q false)) := nextG_is HOK.out HSS.out.1 _
      generalize (u.path ps s0).getD q false = pb at *
      go_wp2_with fail
      refine wp_region_lexS (C := InX wr.drew []) (by kernel_rfl) (by kernel_rfl) (inX_self _ _) ?_
      have hE : Ext wr wr.drew := Ext.rfl'.drew
      generalize wr.drew = w11 at *
      have Ew11 := Lib.hid hE
      clear hE
      have fu0 := fun z : ExtX w11 [] => z.cell (p := ⟨w.heap.size, 0, none⟩) (Ku.out.ext (Ext.trans Ew2.out (Ext.trans Ew3.out (Ext.trans Ew7.out (Ext.trans Ew8.out (Ext.trans Ew9.out (Ext.trans Ew10.out (Ext.trans HEr.out Ew11.out)))))))).1 (by simp)
      have fu1 := fun z : ExtX w11 [] => z.cell (p := ⟨w.heap.size, 1, none⟩) (Ku.out.ext (Ext.trans Ew2.out (Ext.trans Ew3.out (Ext.trans Ew7.out (Ext.trans Ew8.out (Ext.trans Ew9.out (Ext.trans Ew10.out (Ext.trans HEr.out Ew11.out)))))))).2.1 (by simp)
      have fu2 := fun z : ExtX w11 [] => z.cell (p := ⟨w.heap.size, 2, none⟩) (Ku.out.ext (Ext.trans Ew2.out (Ext.trans Ew3.out (Ext.trans Ew7.out (Ext.trans Ew8.out (Ext.trans Ew9.out (Ext.trans Ew10.out (Ext.trans HEr.out Ew11.out)))))))).2.2.1 (by simp)
      have fu3 := fun z : ExtX w11 [] => z.cell (p := ⟨w.heap.size, 3, none⟩) (Ku.out.ext (Ext.trans Ew2.out (Ext.trans Ew3.out (Ext.trans Ew7.out (Ext.trans Ew8.out (Ext.trans Ew9.out (Ext.trans Ew10.out (Ext.trans HEr.out Ew11.out)))))))).2.2.2.1 (by simp)
      have fu4 := fun z : ExtX w11 [] => z.cell (p := ⟨w.heap.size, 4, none⟩) (Ku.out.ext (Ext.trans Ew2.out (Ext.trans Ew3.out (Ext.trans Ew7.out (Ext.trans Ew8.out (Ext.trans Ew9.out (Ext.trans Ew10.out (Ext.trans HEr.out Ew11.out)))))))).2.2.2.2.1 (by simp)
      have fu5 := fun z : ExtX w11 [] => z.cell (p := ⟨w.heap.size, 5, none⟩) (Ku.out.ext (Ext.trans Ew2.out (Ext.trans Ew3.out (Ext.trans Ew7.out (Ext.trans Ew8.out (Ext.trans Ew9.out (Ext.trans Ew10.out (Ext.trans HEr.out Ew11.out)))))))).2.2.2.2.2.1 (by simp)
      have fu6 := fun z : ExtX w11 [] => z.cell (p := ⟨w.heap.size, 6, none⟩) (Ku.out.ext (Ext.trans Ew2.out (Ext.trans Ew3.out (Ext.trans Ew7.out (Ext.trans Ew8.out (Ext.trans Ew9.out (Ext.trans Ew10.out (Ext.trans HEr.out Ew11.out)))))))).2.2.2.2.2.2.1 (by simp)
      have fu7 := fun z : ExtX w11 [] => z.cell (p := ⟨w.heap.size, 7, none⟩) (Ku.out.ext (Ext.trans Ew2.out (Ext.trans Ew3.out (Ext.trans Ew7.out (Ext.trans Ew8.out (Ext.trans Ew9.out (Ext.trans Ew10.out (Ext.trans HEr.out Ew11.out)))))))).2.2.2.2.2.2.2.1 (by simp)
      have fu8 := fun z : ExtX w11 [] => z.cell (p := ⟨w.heap.size, 8, none⟩) (Ku.out.ext (Ext.trans Ew2.out (Ext.trans Ew3.out (Ext.trans Ew7.out (Ext.trans Ew8.out (Ext.trans Ew9.out (Ext.trans Ew10.out (Ext.trans HEr.out Ew11.out)))))))).2.2.2.2.2.2.2.2 (by simp)
      have fb0 := fun z : ExtX w11 [] => z.cell (p := ⟨gB, q, none⟩) (Ext.cellOf Ew11.out HCB.out) (by simp)
      repeat (refine lexAt_still (by rfl) ?_; go_big_quiet_step (fail); refine wpQuiet_nil ?_)
      refine lexAt_move (by rfl) (by kernel_rfl) ?_
      go_wp2_with fail
      refine (nextG_any u s pb A n c w11 (HS.out.below (Ext.trans Ew1.out (Ext.trans Ew2.out (Ext.trans Ew3.out (Ext.trans Ew7.out (Ext.trans Ew8.out (Ext.trans Ew9.out (Ext.trans Ew10.out (Ext.trans HEr.out Ew11.out))))))))) hn).mono ?_
      rintro e w12 ⟨rfl, hE⟩
      have Ew12 := Lib.hid hE
      clear hE
      rw [HNG.out]
      go_wp2_with fail
      refine And.intro (inX_of_ext _ Ew12.out) ?_
      repeat (refine lexAt_still (by rfl) ?_; go_big_quiet_step (fail); refine wpQuiet_nil ?_)
      refine lexAt_nil ?_
      clear fu0 fu1 fu2 fu3 fu4 fu5 fu6 fu7 fu8 fb0
      go_wp2_with fail
      go_roundw
      case rel => exact ⟨q + 1, _, by omega, by go_num, rfl, HNX.out, (Ext.trans HEr.out (Ext.trans Ew11.out Ew12.out))⟩
      case measure => simp [intOf]; omega
    have hqj : q = j := by omega
    subst hqj
    have hbv : decide ((q : Int) < (q : Int)) = false := by simp
    have hbv2 : decide (q < q) = false := by simp
    have HDF := Lib.hid (dyn_facts HC0.out (j := q) (by rw [HPL.out]; exact hjk) (s := s) (by rw [HS0.out]; exact HSS.out.2))
    have HTV := Lib.hid ((RV.out.ext (Ext.trans Ew10.out HEr.out)).there (o := 8) (k := 1) (by simp))
    have KV1 := Lib.hid (KV.out.ext (Ext.trans Ew10.out HEr.out))
    have EV := Lib.hid (Ext.trans Ew8.out (Ext.trans Ew9.out (Ext.trans Ew10.out HEr.out)))
    have QX1 := Lib.hid (Qx.out.ext (Ext.trans Ew8.out (Ext.trans Ew9.out (Ext.trans Ew10.out HEr.out))))
    have KX1 := Lib.hid (Kx.out.ext (Ext.trans Ew9.out (Ext.trans Ew10.out HEr.out)))
    have BB1 := Lib.hid (HBB.out.below (Ext.trans Ew8.out (Ext.trans Ew9.out (Ext.trans Ew10.out HEr.out))))
    go_wp2_with (
      refine wpList_storeS rfl 3 _ _ rfl (w7.heap.size + 1) 8 (.int .i64 s) rfl rfl rfl HTV.out (by kernel_rfl) rfl ?_
      intro wv hpv
      have KV2 : Hid (UBox wv (w7.heap.size + 1) (u.setOn s) A n c) := KV1.out.set8 hpv
      have EV2 := Lib.hid (hpv.touch.ext w7 EV.out (by omega))
      have EV3 := Lib.hid (hpv.touch.ext w8 (Ext.trans Ew9.out (Ext.trans Ew10.out HEr.out)) (Nat.le_of_eq SZX.out))
      clear hpv)
    simp only [Act.put]
    clear HTV KV1 EV QX1 KX1 BB1 RV KV
    have HSV : Hid ((u.setOn s).steps = u.steps) := rfl
    obtain ⟨v, hv⟩ : ∃ v, u.setOn s = v := ⟨_, rfl⟩
    rw [hv] at HSV HDF KV2
    clear hv
    have hq0 : (0 : Int) ≤ (q : Int) := by omega
    have hqc : (q : Int) ≤ (cp : Int) := by omega
    have hqk : (q : Int) ≤ (k : Int) := by omega
    have hqt : ((q : Int)).toNat = q := by omega
    have hqc2 : q ≤ cp := by omega
    have HTK := Lib.hid (HPA.out.takeP hjk)
    refine wp_region_havS [11] [0, 1, 2, 3, 4, 5, 6, 7, 8, 9, 10] [12, 13] (fun _ => .cells #[.bool false, .slice none 0 0, .bool false, .slice none 0 0] 34) (by kernel_rfl) (by kernel_rfl) ?_ ?_
    · intro f hf
      simp only [List.mem_cons, List.not_mem_nil, or_false] at hf
      rcases hf with rfl
      all_goals exact makes_q (by rfl) rfl
    have hE : Ext wv wv.drew := Ext.rfl'.drew
    generalize wv.drew = w13 at *
    have Ew13 := Lib.hid hE
    clear hE
    have fu0 := fun z : ExtX w13 [] => z.cell (p := ⟨w.heap.size, 0, none⟩) (Ku.out.ext (Ext.trans Ew2.out (Ext.trans Ew3.out (Ext.trans Ew7.out (Ext.trans Ew8.out (Ext.trans EV3.out Ew13.out)))))).1 (by simp)
    have fu1 := fun z : ExtX w13 [] => z.cell (p := ⟨w.heap.size, 1, none⟩) (Ku.out.ext (Ext.trans Ew2.out (Ext.trans Ew3.out (Ext.trans Ew7.out (Ext.trans Ew8.out (Ext.trans EV3.out Ew13.out)))))).2.1 (by simp)
    have fu2 := fun z : ExtX w13 [] => z.cell (p := ⟨w.heap.size, 2, none⟩) (Ku.out.ext (Ext.trans Ew2.out (Ext.trans Ew3.out (Ext.trans Ew7.out (Ext.trans Ew8.out (Ext.trans EV3.out Ew13.out)))))).2.2.1 (by simp)
    have fu3 := fun z : ExtX w13 [] => z.cell (p := ⟨w.heap.size, 3, none⟩) (Ku.out.ext (Ext.trans Ew2.out (Ext.trans Ew3.out (Ext.trans Ew7.out (Ext.trans Ew8.out (Ext.trans EV3.out Ew13.out)))))).2.2.2.1 (by simp)
    have fu4 := fun z : ExtX w13 [] => z.cell (p := ⟨w.heap.size, 4, none⟩) (Ku.out.ext (Ext.trans Ew2.out (Ext.trans Ew3.out (Ext.trans Ew7.out (Ext.trans Ew8.out (Ext.trans EV3.out Ew13.out)))))).2.2.2.2.1 (by simp)
    have fu5 := fun z : ExtX w13 [] => z.cell (p := ⟨w.heap.size, 5, none⟩) (Ku.out.ext (Ext.trans Ew2.out (Ext.trans Ew3.out (Ext.trans Ew7.out (Ext.trans Ew8.out (Ext.trans EV3.out Ew13.out)))))).2.2.2.2.2.1 (by simp)
    have fu6 := fun z : ExtX w13 [] => z.cell (p := ⟨w.heap.size, 6, none⟩) (Ku.out.ext (Ext.trans Ew2.out (Ext.trans Ew3.out (Ext.trans Ew7.out (Ext.trans Ew8.out (Ext.trans EV3.out Ew13.out)))))).2.2.2.2.2.2.1 (by simp)
    have fu7 := fun z : ExtX w13 [] => z.cell (p := ⟨w.heap.size, 7, none⟩) (Ku.out.ext (Ext.trans Ew2.out (Ext.trans Ew3.out (Ext.trans Ew7.out (Ext.trans Ew8.out (Ext.trans EV3.out Ew13.out)))))).2.2.2.2.2.2.2.1 (by simp)
    have fu8 := fun z : ExtX w13 [] => z.cell (p := ⟨w.heap.size, 8, none⟩) (Ku.out.ext (Ext.trans Ew2.out (Ext.trans Ew3.out (Ext.trans Ew7.out (Ext.trans Ew8.out (Ext.trans EV3.out Ew13.out)))))).2.2.2.2.2.2.2.2 (by simp)
    intro w14 hE
    have Ew14 := Lib.hid hE
    clear hE
    repeat (refine havAt_still (by rfl) (by rfl) ?_; go_big_quiet_step (fail); refine wpQuiet_nil ?_)
    refine havAt_move (by rfl) (by rfl) (by kernel_rfl) ?_
    go_wp2_with fail
    refine (profit_any u A n c P q cp (ps.take q) (some ⟨gB, 0, none⟩) q k ((u.path ps u.init).take q) w14 (HS.out.below (Ext.trans Ew1.out (Ext.trans Ew2.out (Ext.trans Ew3.out (Ext.trans Ew7.out (Ext.trans Ew8.out (Ext.trans EV3.out (Ext.trans Ew13.out Ew14.out)))))))) hn (HTK.out.ext (Ext.trans Ew1.out (Ext.trans Ew2.out (Ext.trans Ew3.out (Ext.trans Ew7.out (Ext.trans Ew8.out (Ext.trans EV3.out (Ext.trans Ew13.out Ew14.out)))))))) (Nat.le_trans hjk HKM.out) ((HBB.out.below (Ext.trans Ew8.out (Ext.trans EV3.out (Ext.trans Ew13.out Ew14.out)))).takeP hjk) (Nat.le_trans hjk HKM.out)).mono ?_
    rintro e w15 ⟨sy, Ay, ny, cy, ty, By, my, dy, rfl, hQ, hE⟩
    have Ew15 := Lib.hid hE
    clear hE
    have Qy := Lib.hid hQ
    clear hQ
    rw [HDF.out.1]
    go_wp2_with fail
    refine And.intro Ew15.out (fun w16 hE => ?_)
    have Ew16 := Lib.hid hE
    clear hE
    repeat (refine havAt_still (by rfl) (by rfl) ?_; go_big_quiet_step (fail); refine wpQuiet_nil ?_)
    refine havAt_end ?_
    intro gs hgs hne
    have hpy := hgs 11 (by simp)
    change IdxAt _ _ _ _ _ _ (Act.put _ (some 14) (.pointer (some ⟨gs 11, 0, none⟩))) _
    generalize gs 11 = gy at *
    clear hgs hne
    simp only [Act.put, List.setIfInBounds_toArray, List.set_cons_succ, List.set_cons_zero]
    have Py := Lib.hid hpy
    have Ky := Lib.hid (Cell4.of_blk hpy.2.1)
    clear hpy
    repeat (refine idxAt_still (by rfl) (by rfl) ?_; go_big_quiet_step (fail); refine wpQuiet_nil ?_)
    obtain ⟨⟨o0, o1, o2, o3⟩, ⟨q0, q1, q2, q3⟩, ol⟩ := Ky.out
    refine idxAt_move (by rfl) (by rfl) (by kernel_rfl) ?_
    go_wp2_with fail
    refine And.intro (inX_put (p := ⟨gy, 3, none⟩) (inX_put (p := ⟨gy, 2, none⟩) (inX_put (p := ⟨gy, 1, none⟩) (inX_put (p := ⟨gy, 0, none⟩) (inX_of_ext _ (Ext.trans Ew14.out (Ext.trans Ew15.out Ew16.out))) (.inr Py.out.1) _) (.inr Py.out.1) _) (.inr Py.out.1) _) (.inr Py.out.1) _) ?_
    clear o0 o1 o2 o3 q0 q1 q2 q3 ol
    have Ky_1 := Lib.hid (Ky.out.put4 (.bool sy) (.slice Ay ny cy) (.bool ty) (.slice By my dy))
    have NJ1 := Lib.hid (ext_put4 (Ext.trans Ew14.out (Ext.trans Ew15.out Ew16.out)) (g := gy) Py.out.1 0 (.bool sy) (.slice Ay ny cy) (.bool ty) (.slice By my dy))
    have NZ1 : Hid (w16.heap.size ≤ (put4 w16 (gy) 0 (.bool sy) (.slice Ay ny cy) (.bool ty) (.slice By my dy)).heap.size) := by unfold Hid; rw [put4_size]; exact Nat.le_refl _
    have Qy_1 := Lib.hid ((Qy.out.ext Ew16.out).put4A (g := gy) (Qy.out.span (Py.out.2.2 (w14.heap.size, w15.heap.size) (by simp))) 0 (.bool sy) (.slice Ay ny cy) (.bool ty) (.slice By my dy))
    unfold put4 at Ky_1 NJ1 NZ1 Qy_1
    simp only [Nat.zero_add] at Ky_1 NJ1 NZ1 Qy_1
    generalize ((((w16.setCell ⟨gy, 0, none⟩ (.bool sy)).setCell ⟨gy, 1, none⟩ (.slice Ay ny cy)).setCell ⟨gy, 2, none⟩ (.bool ty)).setCell ⟨gy, 3, none⟩ (.slice By my dy)) = w17 at *
    repeat (refine idxAt_still (by rfl) (by rfl) ?_; go_big_quiet_step (fail); refine wpQuiet_nil ?_)
    refine idxAt_nil ?_
    clear fu0 fu1 fu2 fu3 fu4 fu5 fu6 fu7 fu8
    go_wp2_with fail
    have HDL : Hid ((ps.drop q).length = k - q) := by unfold Hid; rw [List.length_drop, HPL.out]
    have HKQ : Hid (k - q ≤ maxLen) := Nat.le_trans (Nat.sub_le _ _) HKM.out
    have HSD : Hid (∀ i, i < (ps.drop q).length → Sz 1000 ((ps.drop q).getD i 0)) := fun i hi => by rw [getD_dropP]; exact HSZ.out (q + i) (by rw [List.length_drop] at hi; omega)
    by_cases hqk2 : q < k
    · obtain ⟨bP, oP, hP, -, -⟩ := HPA.out.2 (by omega)
      subst hP
      have hn1 : ¬ cp = q := by omega
      have hn2 : ¬ k = q := by omega
      refine wp_region_havS [9] [0, 1, 2, 3, 4, 5, 6, 7, 8] [10, 11, 12] (fun _ => .cells #[.bool false, .slice none 0 0, .bool false, .slice none 0 0] 34) (by kernel_rfl) (by kernel_rfl) ?_ ?_
      · intro f hf
        simp only [List.mem_cons, List.not_mem_nil, or_false] at hf
        rcases hf with rfl
        all_goals exact makes_q (by rfl) rfl
      have hE : Ext w17 w17.drew := Ext.rfl'.drew
      generalize w17.drew = w18 at *
      have Ew18 := Lib.hid hE
      clear hE
      have fv0 := fun z : ExtX w18 [] => z.cell (p := ⟨w7.heap.size + 1, 0, none⟩) (KV2.out.ext (Ext.trans Ew13.out (Ext.trans NJ1.out Ew18.out))).1 (by simp)
      have fv1 := fun z : ExtX w18 [] => z.cell (p := ⟨w7.heap.size + 1, 1, none⟩) (KV2.out.ext (Ext.trans Ew13.out (Ext.trans NJ1.out Ew18.out))).2.1 (by simp)
      have fv2 := fun z : ExtX w18 [] => z.cell (p := ⟨w7.heap.size + 1, 2, none⟩) (KV2.out.ext (Ext.trans Ew13.out (Ext.trans NJ1.out Ew18.out))).2.2.1 (by simp)
      have fv3 := fun z : ExtX w18 [] => z.cell (p := ⟨w7.heap.size + 1, 3, none⟩) (KV2.out.ext (Ext.trans Ew13.out (Ext.trans NJ1.out Ew18.out))).2.2.2.1 (by simp)
      have fv4 := fun z : ExtX w18 [] => z.cell (p := ⟨w7.heap.size + 1, 4, none⟩) (KV2.out.ext (Ext.trans Ew13.out (Ext.trans NJ1.out Ew18.out))).2.2.2.2.1 (by simp)
      have fv5 := fun z : ExtX w18 [] => z.cell (p := ⟨w7.heap.size + 1, 5, none⟩) (KV2.out.ext (Ext.trans Ew13.out (Ext.trans NJ1.out Ew18.out))).2.2.2.2.2.1 (by simp)
      have fv6 := fun z : ExtX w18 [] => z.cell (p := ⟨w7.heap.size + 1, 6, none⟩) (KV2.out.ext (Ext.trans Ew13.out (Ext.trans NJ1.out Ew18.out))).2.2.2.2.2.2.1 (by simp)
      have fv7 := fun z : ExtX w18 [] => z.cell (p := ⟨w7.heap.size + 1, 7, none⟩) (KV2.out.ext (Ext.trans Ew13.out (Ext.trans NJ1.out Ew18.out))).2.2.2.2.2.2.2.1 (by simp)
      have fv8 := fun z : ExtX w18 [] => z.cell (p := ⟨w7.heap.size + 1, 8, none⟩) (KV2.out.ext (Ext.trans Ew13.out (Ext.trans NJ1.out Ew18.out))).2.2.2.2.2.2.2.2 (by simp)
      intro w19 hE
      have Ew19 := Lib.hid hE
      clear hE
      repeat (refine havAt_still (by rfl) (by rfl) ?_; go_big_quiet_step (fail); refine wpQuiet_nil ?_)
      refine havAt_move (by rfl) (by rfl) (by kernel_rfl) ?_
      go_wp2_with fail
      refine (best_any v A n c _ _ _ (ps.drop q) w19 (HSV.out ▸ (HS.out.below (Ext.trans Ew1.out (Ext.trans Ew2.out (Ext.trans Ew3.out (Ext.trans Ew7.out (Ext.trans Ew8.out (Ext.trans EV3.out (Ext.trans Ew13.out (Ext.trans NJ1.out (Ext.trans Ew18.out Ew19.out))))))))))) hn ?_ ?_).mono ?_
      · exact (HPA.out.dropP hjk).ext (Ext.trans Ew1.out (Ext.trans Ew2.out (Ext.trans Ew3.out (Ext.trans Ew7.out (Ext.trans Ew8.out (Ext.trans EV3.out (Ext.trans Ew13.out (Ext.trans NJ1.out (Ext.trans Ew18.out Ew19.out)))))))))
      · exact HKQ.out
      rintro e w20 ⟨vB2, sz, Az, nz, cz, tz, Bz, mz, dz, rfl, hQ, hE, hno, hrow⟩
      have Ew20 := Lib.hid hE
      clear hE
      obtain ⟨gD, rfl, hgD, hRB, hcB⟩ := hrow HDF.out.2.1
      have HGD := Lib.hid hgD
      have HGE := Lib.hid hRB.1
      clear hno hrow hgD
      rw [HDF.out.2.1, HDL.out]
      have hbf := best_bools (best_facts HDF.out.2.1).2.2.2 hRB hcB
      rw [HDL.out, HDF.out.2.2.1] at hbf
      have HBD := Lib.hid hbf
      have Qz := Lib.hid hQ
      clear hRB hcB hQ hbf
      go_wp2_with fail
      refine And.intro Ew20.out (fun w21 hE => ?_)
      have Ew21 := Lib.hid hE
      clear hE
      repeat (refine havAt_still (by rfl) (by rfl) ?_; go_big_quiet_step (fail); refine wpQuiet_nil ?_)
      refine havAt_end ?_
      intro gs hgs hne
      have hpz := hgs 9 (by simp)
      change IdxAt _ _ _ _ _ _ (Act.put _ (some 17) (.pointer (some ⟨gs 9, 0, none⟩))) _
      generalize gs 9 = gz at *
      clear hgs hne
      simp only [Act.put, List.setIfInBounds_toArray, List.set_cons_succ, List.set_cons_zero]
      have Pz := Lib.hid hpz
      have Kz := Lib.hid (Cell4.of_blk hpz.2.1)
      clear hpz
      repeat (refine idxAt_still (by rfl) (by rfl) ?_; go_big_quiet_step (fail); refine wpQuiet_nil ?_)
      have HBE := Lib.hid (HBD.out.below Ew21.out)
      have hgz : gz ≥ w18.heap.size := Pz.out.1
      have HBT := Lib.hid (bools_touch HBE.out (touch_put4 w21 gz 0 (.bool sz) (.slice Az nz cz) (.bool tz) (.slice Bz mz dz)) (fun b hb => by obtain ⟨o9, h9⟩ := hb; injection h9 with h9; injection h9 with h9a h9b; subst h9a; have h1 := HGD.out; have h2 := HBD.out; have h3 := Pz.out.2.2 (w19.heap.size, w20.heap.size) (by simp); have h4 := HGE.out; omega))
      unfold put4 at HBT
      simp only [Nat.zero_add] at HBT
      obtain ⟨⟨o0, o1, o2, o3⟩, ⟨q0, q1, q2, q3⟩, ol⟩ := Kz.out
      refine idxAt_move (by rfl) (by rfl) (by kernel_rfl) ?_
      go_wp2_with fail
      refine And.intro (inX_put (p := ⟨gz, 3, none⟩) (inX_put (p := ⟨gz, 2, none⟩) (inX_put (p := ⟨gz, 1, none⟩) (inX_put (p := ⟨gz, 0, none⟩) (inX_of_ext _ (Ext.trans Ew19.out (Ext.trans Ew20.out Ew21.out))) (.inr Pz.out.1) _) (.inr Pz.out.1) _) (.inr Pz.out.1) _) (.inr Pz.out.1) _) ?_
      clear o0 o1 o2 o3 q0 q1 q2 q3 ol
      have Kz_2 := Lib.hid (Kz.out.put4 (.bool sz) (.slice Az nz cz) (.bool tz) (.slice Bz mz dz))
      have NJ2 := Lib.hid (ext_put4 (Ext.trans Ew19.out (Ext.trans Ew20.out Ew21.out)) (g := gz) Pz.out.1 0 (.bool sz) (.slice Az nz cz) (.bool tz) (.slice Bz mz dz))
      have NZ2 : Hid (w21.heap.size ≤ (put4 w21 (gz) 0 (.bool sz) (.slice Az nz cz) (.bool tz) (.slice Bz mz dz)).heap.size) := by unfold Hid; rw [put4_size]; exact Nat.le_refl _
      have Qz_2 := Lib.hid ((Qz.out.ext Ew21.out).put4A (g := gz) (Qz.out.span (Pz.out.2.2 (w19.heap.size, w20.heap.size) (by simp))) 0 (.bool sz) (.slice Az nz cz) (.bool tz) (.slice Bz mz dz))
      unfold put4 at Kz_2 NJ2 NZ2 Qz_2
      simp only [Nat.zero_add] at Kz_2 NJ2 NZ2 Qz_2
      generalize ((((w21.setCell ⟨gz, 0, none⟩ (.bool sz)).setCell ⟨gz, 1, none⟩ (.slice Az nz cz)).setCell ⟨gz, 2, none⟩ (.bool tz)).setCell ⟨gz, 3, none⟩ (.slice Bz mz dz)) = w22 at *
      repeat (refine idxAt_still (by rfl) (by rfl) ?_; go_big_quiet_step (fail); refine wpQuiet_nil ?_)
      refine idxAt_nil ?_
      clear fv0 fv1 fv2 fv3 fv4 fv5 fv6 fv7 fv8
      go_wp2_with fail
      refine wp_region_lexS (C := InX w22.drew []) (by kernel_rfl) (by kernel_rfl) (inX_self _ _) ?_
      have hE : Ext w22 w22.drew := Ext.rfl'.drew
      generalize w22.drew = w23 at *
      have Ew23 := Lib.hid hE
      clear hE
      have fx0 := fun z : ExtX w23 [] => z.cell (p := ⟨w7.heap.size, 0, none⟩) (Kx.out.ext (Ext.trans EV3.out (Ext.trans Ew13.out (Ext.trans NJ1.out (Ext.trans Ew18.out (Ext.trans NJ2.out Ew23.out)))))).1.1 (by simp)
      have fx1 := fun z : ExtX w23 [] => z.cell (p := ⟨w7.heap.size, 1, none⟩) (Kx.out.ext (Ext.trans EV3.out (Ext.trans Ew13.out (Ext.trans NJ1.out (Ext.trans Ew18.out (Ext.trans NJ2.out Ew23.out)))))).1.2.1 (by simp)
      have fx2 := fun z : ExtX w23 [] => z.cell (p := ⟨w7.heap.size, 2, none⟩) (Kx.out.ext (Ext.trans EV3.out (Ext.trans Ew13.out (Ext.trans NJ1.out (Ext.trans Ew18.out (Ext.trans NJ2.out Ew23.out)))))).1.2.2.1 (by simp)
      have fx3 := fun z : ExtX w23 [] => z.cell (p := ⟨w7.heap.size, 3, none⟩) (Kx.out.ext (Ext.trans EV3.out (Ext.trans Ew13.out (Ext.trans NJ1.out (Ext.trans Ew18.out (Ext.trans NJ2.out Ew23.out)))))).1.2.2.2 (by simp)
      have fy0 := fun z : ExtX w23 [] => z.cell (p := ⟨gy, 0, none⟩) (Ky_1.out.ext (Ext.trans Ew18.out (Ext.trans NJ2.out Ew23.out))).1.1 (by simp)
      have fy1 := fun z : ExtX w23 [] => z.cell (p := ⟨gy, 1, none⟩) (Ky_1.out.ext (Ext.trans Ew18.out (Ext.trans NJ2.out Ew23.out))).1.2.1 (by simp)
      have fy2 := fun z : ExtX w23 [] => z.cell (p := ⟨gy, 2, none⟩) (Ky_1.out.ext (Ext.trans Ew18.out (Ext.trans NJ2.out Ew23.out))).1.2.2.1 (by simp)
      have fy3 := fun z : ExtX w23 [] => z.cell (p := ⟨gy, 3, none⟩) (Ky_1.out.ext (Ext.trans Ew18.out (Ext.trans NJ2.out Ew23.out))).1.2.2.2 (by simp)
      have fz0 := fun z : ExtX w23 [] => z.cell (p := ⟨gz, 0, none⟩) (Kz_2.out.ext Ew23.out).1.1 (by simp)
      have fz1 := fun z : ExtX w23 [] => z.cell (p := ⟨gz, 1, none⟩) (Kz_2.out.ext Ew23.out).1.2.1 (by simp)
      have fz2 := fun z : ExtX w23 [] => z.cell (p := ⟨gz, 2, none⟩) (Kz_2.out.ext Ew23.out).1.2.2.1 (by simp)
      have fz3 := fun z : ExtX w23 [] => z.cell (p := ⟨gz, 3, none⟩) (Kz_2.out.ext Ew23.out).1.2.2.2 (by simp)
      repeat (refine lexAt_still (by rfl) ?_; go_big_quiet_step (fail); refine wpQuiet_nil ?_)
      refine lexAt_move (by rfl) (by kernel_rfl) ?_
      go_wp2_with fail
      refine (same_any (some ⟨gD, 0, none⟩) (k - q) (k - q) ((u.path ps u.init).drop q) _ _ _ ((u.path ps u.init).drop q) w23 (HBT.out.below Ew23.out) ?_ HKQ.out).mono ?_
      · simpa using ((HBB.out.below (Ext.trans Ew8.out (Ext.trans EV3.out (Ext.trans Ew13.out (Ext.trans NJ1.out (Ext.trans Ew18.out (Ext.trans NJ2.out Ew23.out))))))).dropP hjk)
      rintro e w24 ⟨rfl, hE⟩
      have Ew24 := Lib.hid hE
      clear hE
      rw [decide_eq_true rfl]
      go_wp2_with fail
      refine And.intro (inX_of_ext _ Ew24.out) ?_
      repeat (refine lexAt_still (by rfl) ?_; go_big_quiet_step (fail); refine wpQuiet_nil ?_)
      refine lexAt_move (by rfl) (by kernel_rfl) ?_
      go_wp2_with fail
      refine (qadd_any sy Ay ny cy ty By my dy _ sz Az nz cz tz Bz mz dz _ w24 ((Qy_1.out.ext (Ext.trans Ew18.out (Ext.trans NJ2.out (Ext.trans Ew23.out Ew24.out)))).arg (sz_profV (fun i hi => HTK.out.sz hi)) (by omega)) ((Qz_2.out.ext (Ext.trans Ew23.out Ew24.out)).arg (sz_bestV HSD.out) (by omega))).mono ?_
      rintro e w25 ⟨ss, As, ns, cs, ts, Bs, ms, ds, rfl, hQ, hE⟩
      have Ew25 := Lib.hid hE
      clear hE
      have Qs := Lib.hid hQ
      clear hQ
      go_wp2_with fail
      refine And.intro (inX_of_ext _ (Ext.trans Ew24.out Ew25.out)) ?_
      repeat (refine lexAt_still (by rfl) ?_; go_big_quiet_step (fail); refine wpQuiet_nil ?_)
      refine lexAt_move (by rfl) (by kernel_rfl) ?_
      go_wp2_with fail
      refine (qequal_any sx Ax nx cx tx Bx mx dx _ ss As ns cs ts Bs ms ds _ w25 ((Qx.out.ext (Ext.trans Ew8.out (Ext.trans EV3.out (Ext.trans Ew13.out (Ext.trans NJ1.out (Ext.trans Ew18.out (Ext.trans NJ2.out (Ext.trans Ew23.out (Ext.trans Ew24.out Ew25.out))))))))).arg (sz_bestV HSZ.out) (by omega)) (Qs.out.arg ((sz_profV (fun i hi => HTK.out.sz hi)).add (sz_bestV HSD.out)) (by omega))).mono ?_
      rintro e w26 ⟨rfl, hE⟩
      have Ew26 := Lib.hid hE
      clear hE
      rw [decide_eq_true HDF.out.2.2.2]
      go_wp2_with fail
      refine And.intro (inX_of_ext _ (Ext.trans Ew24.out (Ext.trans Ew25.out Ew26.out))) ?_
      repeat (refine lexAt_still (by rfl) ?_; go_big_quiet_step (fail); refine wpQuiet_nil ?_)
      refine lexAt_nil ?_
      clear fx0 fx1 fx2 fx3 fy0 fy1 fy2 fy3 fz0 fz1 fz2 fz3
      go_wp2_with fail
      go_ret
      exact ⟨rfl, (Ext.trans Ew1.out (Ext.trans Ew2.out (Ext.trans Ew3.out (Ext.trans Ew7.out (Ext.trans Ew8.out (Ext.trans EV3.out (Ext.trans Ew13.out (Ext.trans NJ1.out (Ext.trans Ew18.out (Ext.trans NJ2.out (Ext.trans Ew23.out (Ext.trans Ew24.out (Ext.trans Ew25.out Ew26.out)))))))))))))⟩
    obtain rfl : q = k := by omega
    have HDZ : Hid ((ps.drop q).length = 0) := by unfold Hid; rw [HDL.out]; omega
    have HPZ : Hid (((u.path ps u.init).drop q).length = 0) := by unfold Hid; rw [List.length_drop, HBF.out.2.2.2, HPL.out]; omega
    have hkk0 : q - q = 0 := by omega
    clear HDL HKQ
    have HDL := HDZ
    have HKQ : Hid (0 ≤ maxLen) := Nat.zero_le _
    by_cases hcq : cp = q
    · have hcq3 := hcq.symm
      subst hcq3
      cases P
      · skip
        refine wp_region_havS [9] [0, 1, 2, 3, 4, 5, 6, 7, 8] [10, 11, 12] (fun _ => .cells #[.bool false, .slice none 0 0, .bool false, .slice none 0 0] 34) (by kernel_rfl) (by kernel_rfl) ?_ ?_
        · intro f hf
          simp only [List.mem_cons, List.not_mem_nil, or_false] at hf
          rcases hf with rfl
          all_goals exact makes_q (by rfl) rfl
        have hE : Ext w17 w17.drew := Ext.rfl'.drew
        generalize w17.drew = w27 at *
        have Ew27 := Lib.hid hE
        clear hE
        have fv0 := fun z : ExtX w27 [] => z.cell (p := ⟨w7.heap.size + 1, 0, none⟩) (KV2.out.ext (Ext.trans Ew13.out (Ext.trans NJ1.out Ew27.out))).1 (by simp)
        have fv1 := fun z : ExtX w27 [] => z.cell (p := ⟨w7.heap.size + 1, 1, none⟩) (KV2.out.ext (Ext.trans Ew13.out (Ext.trans NJ1.out Ew27.out))).2.1 (by simp)
        have fv2 := fun z : ExtX w27 [] => z.cell (p := ⟨w7.heap.size + 1, 2, none⟩) (KV2.out.ext (Ext.trans Ew13.out (Ext.trans NJ1.out Ew27.out))).2.2.1 (by simp)
        have fv3 := fun z : ExtX w27 [] => z.cell (p := ⟨w7.heap.size + 1, 3, none⟩) (KV2.out.ext (Ext.trans Ew13.out (Ext.trans NJ1.out Ew27.out))).2.2.2.1 (by simp)
        have fv4 := fun z : ExtX w27 [] => z.cell (p := ⟨w7.heap.size + 1, 4, none⟩) (KV2.out.ext (Ext.trans Ew13.out (Ext.trans NJ1.out Ew27.out))).2.2.2.2.1 (by simp)
        have fv5 := fun z : ExtX w27 [] => z.cell (p := ⟨w7.heap.size + 1, 5, none⟩) (KV2.out.ext (Ext.trans Ew13.out (Ext.trans NJ1.out Ew27.out))).2.2.2.2.2.1 (by simp)
        have fv6 := fun z : ExtX w27 [] => z.cell (p := ⟨w7.heap.size + 1, 6, none⟩) (KV2.out.ext (Ext.trans Ew13.out (Ext.trans NJ1.out Ew27.out))).2.2.2.2.2.2.1 (by simp)
        have fv7 := fun z : ExtX w27 [] => z.cell (p := ⟨w7.heap.size + 1, 7, none⟩) (KV2.out.ext (Ext.trans Ew13.out (Ext.trans NJ1.out Ew27.out))).2.2.2.2.2.2.2.1 (by simp)
        have fv8 := fun z : ExtX w27 [] => z.cell (p := ⟨w7.heap.size + 1, 8, none⟩) (KV2.out.ext (Ext.trans Ew13.out (Ext.trans NJ1.out Ew27.out))).2.2.2.2.2.2.2.2 (by simp)
        intro w28 hE
        have Ew28 := Lib.hid hE
        clear hE
        repeat (refine havAt_still (by rfl) (by rfl) ?_; go_big_quiet_step (fail); refine wpQuiet_nil ?_)
        refine havAt_move (by rfl) (by rfl) (by kernel_rfl) ?_
        go_wp2_with fail
        refine (best_any v A n c _ _ _ (ps.drop q) w28 (HSV.out ▸ (HS.out.below (Ext.trans Ew1.out (Ext.trans Ew2.out (Ext.trans Ew3.out (Ext.trans Ew7.out (Ext.trans Ew8.out (Ext.trans EV3.out (Ext.trans Ew13.out (Ext.trans NJ1.out (Ext.trans Ew27.out Ew28.out))))))))))) hn ?_ ?_).mono ?_
        · exact ⟨by have := HDL.out; omega, fun h => absurd h (by omega)⟩
        · exact HKQ.out
        rintro e w29 ⟨vB2, sz, Az, nz, cz, tz, Bz, mz, dz, rfl, hQ, hE, hno, hrow⟩
        have Ew29 := Lib.hid hE
        clear hE
        obtain ⟨gD, rfl, hgD, hRB, hcB⟩ := hrow HDF.out.2.1
        have HGD := Lib.hid hgD
        have HGE := Lib.hid hRB.1
        clear hno hrow hgD
        rw [HDF.out.2.1, HDL.out]
        have hbf := best_bools (best_facts HDF.out.2.1).2.2.2 hRB hcB
        rw [HDL.out, HDF.out.2.2.1] at hbf
        have HBD := Lib.hid hbf
        have Qz := Lib.hid hQ
        clear hRB hcB hQ hbf
        go_wp2_with fail
        refine And.intro Ew29.out (fun w30 hE => ?_)
        have Ew30 := Lib.hid hE
        clear hE
        repeat (refine havAt_still (by rfl) (by rfl) ?_; go_big_quiet_step (fail); refine wpQuiet_nil ?_)
        refine havAt_end ?_
        intro gs hgs hne
        have hpz := hgs 9 (by simp)
        change IdxAt _ _ _ _ _ _ (Act.put _ (some 17) (.pointer (some ⟨gs 9, 0, none⟩))) _
        generalize gs 9 = gz at *
        clear hgs hne
        simp only [Act.put, List.setIfInBounds_toArray, List.set_cons_succ, List.set_cons_zero]
        have Pz := Lib.hid hpz
        have Kz := Lib.hid (Cell4.of_blk hpz.2.1)
        clear hpz
        repeat (refine idxAt_still (by rfl) (by rfl) ?_; go_big_quiet_step (fail); refine wpQuiet_nil ?_)
        have HBE := Lib.hid (HBD.out.below Ew30.out)
        have hgz : gz ≥ w27.heap.size := Pz.out.1
        have HBT := Lib.hid (bools_touch HBE.out (touch_put4 w30 gz 0 (.bool sz) (.slice Az nz cz) (.bool tz) (.slice Bz mz dz)) (fun b hb => by obtain ⟨o9, h9⟩ := hb; injection h9 with h9; injection h9 with h9a h9b; subst h9a; have h1 := HGD.out; have h2 := HBD.out; have h3 := Pz.out.2.2 (w28.heap.size, w29.heap.size) (by simp); have h4 := HGE.out; omega))
        unfold put4 at HBT
        simp only [Nat.zero_add] at HBT
        obtain ⟨⟨o0, o1, o2, o3⟩, ⟨q0, q1, q2, q3⟩, ol⟩ := Kz.out
        refine idxAt_move (by rfl) (by rfl) (by kernel_rfl) ?_
        go_wp2_with fail
        refine And.intro (inX_put (p := ⟨gz, 3, none⟩) (inX_put (p := ⟨gz, 2, none⟩) (inX_put (p := ⟨gz, 1, none⟩) (inX_put (p := ⟨gz, 0, none⟩) (inX_of_ext _ (Ext.trans Ew28.out (Ext.trans Ew29.out Ew30.out))) (.inr Pz.out.1) _) (.inr Pz.out.1) _) (.inr Pz.out.1) _) (.inr Pz.out.1) _) ?_
        clear o0 o1 o2 o3 q0 q1 q2 q3 ol
        have Kz_3 := Lib.hid (Kz.out.put4 (.bool sz) (.slice Az nz cz) (.bool tz) (.slice Bz mz dz))
        have NJ3 := Lib.hid (ext_put4 (Ext.trans Ew28.out (Ext.trans Ew29.out Ew30.out)) (g := gz) Pz.out.1 0 (.bool sz) (.slice Az nz cz) (.bool tz) (.slice Bz mz dz))
        have NZ3 : Hid (w30.heap.size ≤ (put4 w30 (gz) 0 (.bool sz) (.slice Az nz cz) (.bool tz) (.slice Bz mz dz)).heap.size) := by unfold Hid; rw [put4_size]; exact Nat.le_refl _
        have Qz_3 := Lib.hid ((Qz.out.ext Ew30.out).put4A (g := gz) (Qz.out.span (Pz.out.2.2 (w28.heap.size, w29.heap.size) (by simp))) 0 (.bool sz) (.slice Az nz cz) (.bool tz) (.slice Bz mz dz))
        unfold put4 at Kz_3 NJ3 NZ3 Qz_3
        simp only [Nat.zero_add] at Kz_3 NJ3 NZ3 Qz_3
        generalize ((((w30.setCell ⟨gz, 0, none⟩ (.bool sz)).setCell ⟨gz, 1, none⟩ (.slice Az nz cz)).setCell ⟨gz, 2, none⟩ (.bool tz)).setCell ⟨gz, 3, none⟩ (.slice Bz mz dz)) = w31 at *
        repeat (refine idxAt_still (by rfl) (by rfl) ?_; go_big_quiet_step (fail); refine wpQuiet_nil ?_)
        refine idxAt_nil ?_
        clear fv0 fv1 fv2 fv3 fv4 fv5 fv6 fv7 fv8
        go_wp2_with fail
        refine wp_region_lexS (C := InX w31.drew []) (by kernel_rfl) (by kernel_rfl) (inX_self _ _) ?_
        have hE : Ext w31 w31.drew := Ext.rfl'.drew
        generalize w31.drew = w32 at *
        have Ew32 := Lib.hid hE
        clear hE
        have fx0 := fun z : ExtX w32 [] => z.cell (p := ⟨w7.heap.size, 0, none⟩) (Kx.out.ext (Ext.trans EV3.out (Ext.trans Ew13.out (Ext.trans NJ1.out (Ext.trans Ew27.out (Ext.trans NJ3.out Ew32.out)))))).1.1 (by simp)
        have fx1 := fun z : ExtX w32 [] => z.cell (p := ⟨w7.heap.size, 1, none⟩) (Kx.out.ext (Ext.trans EV3.out (Ext.trans Ew13.out (Ext.trans NJ1.out (Ext.trans Ew27.out (Ext.trans NJ3.out Ew32.out)))))).1.2.1 (by simp)
        have fx2 := fun z : ExtX w32 [] => z.cell (p := ⟨w7.heap.size, 2, none⟩) (Kx.out.ext (Ext.trans EV3.out (Ext.trans Ew13.out (Ext.trans NJ1.out (Ext.trans Ew27.out (Ext.trans NJ3.out Ew32.out)))))).1.2.2.1 (by simp)
        have fx3 := fun z : ExtX w32 [] => z.cell (p := ⟨w7.heap.size, 3, none⟩) (Kx.out.ext (Ext.trans EV3.out (Ext.trans Ew13.out (Ext.trans NJ1.out (Ext.trans Ew27.out (Ext.trans NJ3.out Ew32.out)))))).1.2.2.2 (by simp)
        have fy0 := fun z : ExtX w32 [] => z.cell (p := ⟨gy, 0, none⟩) (Ky_1.out.ext (Ext.trans Ew27.out (Ext.trans NJ3.out Ew32.out))).1.1 (by simp)
        have fy1 := fun z : ExtX w32 [] => z.cell (p := ⟨gy, 1, none⟩) (Ky_1.out.ext (Ext.trans Ew27.out (Ext.trans NJ3.out Ew32.out))).1.2.1 (by simp)
        have fy2 := fun z : ExtX w32 [] => z.cell (p := ⟨gy, 2, none⟩) (Ky_1.out.ext (Ext.trans Ew27.out (Ext.trans NJ3.out Ew32.out))).1.2.2.1 (by simp)
        have fy3 := fun z : ExtX w32 [] => z.cell (p := ⟨gy, 3, none⟩) (Ky_1.out.ext (Ext.trans Ew27.out (Ext.trans NJ3.out Ew32.out))).1.2.2.2 (by simp)
        have fz0 := fun z : ExtX w32 [] => z.cell (p := ⟨gz, 0, none⟩) (Kz_3.out.ext Ew32.out).1.1 (by simp)
        have fz1 := fun z : ExtX w32 [] => z.cell (p := ⟨gz, 1, none⟩) (Kz_3.out.ext Ew32.out).1.2.1 (by simp)
        have fz2 := fun z : ExtX w32 [] => z.cell (p := ⟨gz, 2, none⟩) (Kz_3.out.ext Ew32.out).1.2.2.1 (by simp)
        have fz3 := fun z : ExtX w32 [] => z.cell (p := ⟨gz, 3, none⟩) (Kz_3.out.ext Ew32.out).1.2.2.2 (by simp)
        repeat (refine lexAt_still (by rfl) ?_; go_big_quiet_step (fail); refine wpQuiet_nil ?_)
        refine lexAt_move (by rfl) (by kernel_rfl) ?_
        go_wp2_with fail
        refine (same_any (some ⟨gD, 0, none⟩) 0 0 ((u.path ps u.init).drop q) _ _ _ ((u.path ps u.init).drop q) w32 (HBT.out.below Ew32.out) ?_ HKQ.out).mono ?_
        · exact ⟨by have := HPZ.out; omega, fun h => absurd h (by omega)⟩
        rintro e w33 ⟨rfl, hE⟩
        have Ew33 := Lib.hid hE
        clear hE
        rw [decide_eq_true rfl]
        go_wp2_with fail
        refine And.intro (inX_of_ext _ Ew33.out) ?_
        repeat (refine lexAt_still (by rfl) ?_; go_big_quiet_step (fail); refine wpQuiet_nil ?_)
        refine lexAt_move (by rfl) (by kernel_rfl) ?_
        go_wp2_with fail
        refine (qadd_any sy Ay ny cy ty By my dy _ sz Az nz cz tz Bz mz dz _ w33 ((Qy_1.out.ext (Ext.trans Ew27.out (Ext.trans NJ3.out (Ext.trans Ew32.out Ew33.out)))).arg (sz_profV (fun i hi => HTK.out.sz hi)) (by omega)) ((Qz_3.out.ext (Ext.trans Ew32.out Ew33.out)).arg (sz_bestV HSD.out) (by omega))).mono ?_
        rintro e w34 ⟨ss, As, ns, cs, ts, Bs, ms, ds, rfl, hQ, hE⟩
        have Ew34 := Lib.hid hE
        clear hE
        have Qs := Lib.hid hQ
        clear hQ
        go_wp2_with fail
        refine And.intro (inX_of_ext _ (Ext.trans Ew33.out Ew34.out)) ?_
        repeat (refine lexAt_still (by rfl) ?_; go_big_quiet_step (fail); refine wpQuiet_nil ?_)
        refine lexAt_move (by rfl) (by kernel_rfl) ?_
        go_wp2_with fail
        refine (qequal_any sx Ax nx cx tx Bx mx dx _ ss As ns cs ts Bs ms ds _ w34 ((Qx.out.ext (Ext.trans Ew8.out (Ext.trans EV3.out (Ext.trans Ew13.out (Ext.trans NJ1.out (Ext.trans Ew27.out (Ext.trans NJ3.out (Ext.trans Ew32.out (Ext.trans Ew33.out Ew34.out))))))))).arg (sz_bestV HSZ.out) (by omega)) (Qs.out.arg ((sz_profV (fun i hi => HTK.out.sz hi)).add (sz_bestV HSD.out)) (by omega))).mono ?_
        rintro e w35 ⟨rfl, hE⟩
        have Ew35 := Lib.hid hE
        clear hE
        rw [decide_eq_true HDF.out.2.2.2]
        go_wp2_with fail
        refine And.intro (inX_of_ext _ (Ext.trans Ew33.out (Ext.trans Ew34.out Ew35.out))) ?_
        repeat (refine lexAt_still (by rfl) ?_; go_big_quiet_step (fail); refine wpQuiet_nil ?_)
        refine lexAt_nil ?_
        clear fx0 fx1 fx2 fx3 fy0 fy1 fy2 fy3 fz0 fz1 fz2 fz3
        go_wp2_with fail
        go_ret
        exact ⟨rfl, (Ext.trans Ew1.out (Ext.trans Ew2.out (Ext.trans Ew3.out (Ext.trans Ew7.out (Ext.trans Ew8.out (Ext.trans EV3.out (Ext.trans Ew13.out (Ext.trans NJ1.out (Ext.trans Ew27.out (Ext.trans NJ3.out (Ext.trans Ew32.out (Ext.trans Ew33.out (Ext.trans Ew34.out Ew35.out)))))))))))))⟩
      · skip
        refine wp_region_havS [9] [0, 1, 2, 3, 4, 5, 6, 7, 8] [10, 11, 12] (fun _ => .cells #[.bool false, .slice none 0 0, .bool false, .slice none 0 0] 34) (by kernel_rfl) (by kernel_rfl) ?_ ?_
        · intro f hf
          simp only [List.mem_cons, List.not_mem_nil, or_false] at hf
          rcases hf with rfl
          all_goals exact makes_q (by rfl) rfl
        have hE : Ext w17 w17.drew := Ext.rfl'.drew
        generalize w17.drew = w36 at *
        have Ew36 := Lib.hid hE
        clear hE
        have fv0 := fun z : ExtX w36 [] => z.cell (p := ⟨w7.heap.size + 1, 0, none⟩) (KV2.out.ext (Ext.trans Ew13.out (Ext.trans NJ1.out Ew36.out))).1 (by simp)
        have fv1 := fun z : ExtX w36 [] => z.cell (p := ⟨w7.heap.size + 1, 1, none⟩) (KV2.out.ext (Ext.trans Ew13.out (Ext.trans NJ1.out Ew36.out))).2.1 (by simp)
        have fv2 := fun z : ExtX w36 [] => z.cell (p := ⟨w7.heap.size + 1, 2, none⟩) (KV2.out.ext (Ext.trans Ew13.out (Ext.trans NJ1.out Ew36.out))).2.2.1 (by simp)
        have fv3 := fun z : ExtX w36 [] => z.cell (p := ⟨w7.heap.size + 1, 3, none⟩) (KV2.out.ext (Ext.trans Ew13.out (Ext.trans NJ1.out Ew36.out))).2.2.2.1 (by simp)
        have fv4 := fun z : ExtX w36 [] => z.cell (p := ⟨w7.heap.size + 1, 4, none⟩) (KV2.out.ext (Ext.trans Ew13.out (Ext.trans NJ1.out Ew36.out))).2.2.2.2.1 (by simp)
        have fv5 := fun z : ExtX w36 [] => z.cell (p := ⟨w7.heap.size + 1, 5, none⟩) (KV2.out.ext (Ext.trans Ew13.out (Ext.trans NJ1.out Ew36.out))).2.2.2.2.2.1 (by simp)
        have fv6 := fun z : ExtX w36 [] => z.cell (p := ⟨w7.heap.size + 1, 6, none⟩) (KV2.out.ext (Ext.trans Ew13.out (Ext.trans NJ1.out Ew36.out))).2.2.2.2.2.2.1 (by simp)
        have fv7 := fun z : ExtX w36 [] => z.cell (p := ⟨w7.heap.size + 1, 7, none⟩) (KV2.out.ext (Ext.trans Ew13.out (Ext.trans NJ1.out Ew36.out))).2.2.2.2.2.2.2.1 (by simp)
        have fv8 := fun z : ExtX w36 [] => z.cell (p := ⟨w7.heap.size + 1, 8, none⟩) (KV2.out.ext (Ext.trans Ew13.out (Ext.trans NJ1.out Ew36.out))).2.2.2.2.2.2.2.2 (by simp)
        intro w37 hE
        have Ew37 := Lib.hid hE
        clear hE
        repeat (refine havAt_still (by rfl) (by rfl) ?_; go_big_quiet_step (fail); refine wpQuiet_nil ?_)
        refine havAt_move (by rfl) (by rfl) (by kernel_rfl) ?_
        go_wp2_with fail
        refine (best_any v A n c _ _ _ (ps.drop q) w37 (HSV.out ▸ (HS.out.below (Ext.trans Ew1.out (Ext.trans Ew2.out (Ext.trans Ew3.out (Ext.trans Ew7.out (Ext.trans Ew8.out (Ext.trans EV3.out (Ext.trans Ew13.out (Ext.trans NJ1.out (Ext.trans Ew36.out Ew37.out))))))))))) hn ?_ ?_).mono ?_
        · exact ⟨by have := HDL.out; omega, fun h => absurd h (by omega)⟩
        · exact HKQ.out
        rintro e w38 ⟨vB2, sz, Az, nz, cz, tz, Bz, mz, dz, rfl, hQ, hE, hno, hrow⟩
        have Ew38 := Lib.hid hE
        clear hE
        obtain ⟨gD, rfl, hgD, hRB, hcB⟩ := hrow HDF.out.2.1
        have HGD := Lib.hid hgD
        have HGE := Lib.hid hRB.1
        clear hno hrow hgD
        rw [HDF.out.2.1, HDL.out]
        have hbf := best_bools (best_facts HDF.out.2.1).2.2.2 hRB hcB
        rw [HDL.out, HDF.out.2.2.1] at hbf
        have HBD := Lib.hid hbf
        have Qz := Lib.hid hQ
        clear hRB hcB hQ hbf
        go_wp2_with fail
        refine And.intro Ew38.out (fun w39 hE => ?_)
        have Ew39 := Lib.hid hE
        clear hE
        repeat (refine havAt_still (by rfl) (by rfl) ?_; go_big_quiet_step (fail); refine wpQuiet_nil ?_)
        refine havAt_end ?_
        intro gs hgs hne
        have hpz := hgs 9 (by simp)
        change IdxAt _ _ _ _ _ _ (Act.put _ (some 17) (.pointer (some ⟨gs 9, 0, none⟩))) _
        generalize gs 9 = gz at *
        clear hgs hne
        simp only [Act.put, List.setIfInBounds_toArray, List.set_cons_succ, List.set_cons_zero]
        have Pz := Lib.hid hpz
        have Kz := Lib.hid (Cell4.of_blk hpz.2.1)
        clear hpz
        repeat (refine idxAt_still (by rfl) (by rfl) ?_; go_big_quiet_step (fail); refine wpQuiet_nil ?_)
        have HBE := Lib.hid (HBD.out.below Ew39.out)
        have hgz : gz ≥ w36.heap.size := Pz.out.1
        have HBT := Lib.hid (bools_touch HBE.out (touch_put4 w39 gz 0 (.bool sz) (.slice Az nz cz) (.bool tz) (.slice Bz mz dz)) (fun b hb => by obtain ⟨o9, h9⟩ := hb; injection h9 with h9; injection h9 with h9a h9b; subst h9a; have h1 := HGD.out; have h2 := HBD.out; have h3 := Pz.out.2.2 (w37.heap.size, w38.heap.size) (by simp); have h4 := HGE.out; omega))
        unfold put4 at HBT
        simp only [Nat.zero_add] at HBT
        obtain ⟨⟨o0, o1, o2, o3⟩, ⟨q0, q1, q2, q3⟩, ol⟩ := Kz.out
        refine idxAt_move (by rfl) (by rfl) (by kernel_rfl) ?_
        go_wp2_with fail
        refine And.intro (inX_put (p := ⟨gz, 3, none⟩) (inX_put (p := ⟨gz, 2, none⟩) (inX_put (p := ⟨gz, 1, none⟩) (inX_put (p := ⟨gz, 0, none⟩) (inX_of_ext _ (Ext.trans Ew37.out (Ext.trans Ew38.out Ew39.out))) (.inr Pz.out.1) _) (.inr Pz.out.1) _) (.inr Pz.out.1) _) (.inr Pz.out.1) _) ?_
        clear o0 o1 o2 o3 q0 q1 q2 q3 ol
        have Kz_4 := Lib.hid (Kz.out.put4 (.bool sz) (.slice Az nz cz) (.bool tz) (.slice Bz mz dz))
        have NJ4 := Lib.hid (ext_put4 (Ext.trans Ew37.out (Ext.trans Ew38.out Ew39.out)) (g := gz) Pz.out.1 0 (.bool sz) (.slice Az nz cz) (.bool tz) (.slice Bz mz dz))
        have NZ4 : Hid (w39.heap.size ≤ (put4 w39 (gz) 0 (.bool sz) (.slice Az nz cz) (.bool tz) (.slice Bz mz dz)).heap.size) := by unfold Hid; rw [put4_size]; exact Nat.le_refl _
        have Qz_4 := Lib.hid ((Qz.out.ext Ew39.out).put4A (g := gz) (Qz.out.span (Pz.out.2.2 (w37.heap.size, w38.heap.size) (by simp))) 0 (.bool sz) (.slice Az nz cz) (.bool tz) (.slice Bz mz dz))
        unfold put4 at Kz_4 NJ4 NZ4 Qz_4
        simp only [Nat.zero_add] at Kz_4 NJ4 NZ4 Qz_4
        generalize ((((w39.setCell ⟨gz, 0, none⟩ (.bool sz)).setCell ⟨gz, 1, none⟩ (.slice Az nz cz)).setCell ⟨gz, 2, none⟩ (.bool tz)).setCell ⟨gz, 3, none⟩ (.slice Bz mz dz)) = w40 at *
        repeat (refine idxAt_still (by rfl) (by rfl) ?_; go_big_quiet_step (fail); refine wpQuiet_nil ?_)
        refine idxAt_nil ?_
        clear fv0 fv1 fv2 fv3 fv4 fv5 fv6 fv7 fv8
        go_wp2_with fail
        refine wp_region_lexS (C := InX w40.drew []) (by kernel_rfl) (by kernel_rfl) (inX_self _ _) ?_
        have hE : Ext w40 w40.drew := Ext.rfl'.drew
        generalize w40.drew = w41 at *
        have Ew41 := Lib.hid hE
        clear hE
        have fx0 := fun z : ExtX w41 [] => z.cell (p := ⟨w7.heap.size, 0, none⟩) (Kx.out.ext (Ext.trans EV3.out (Ext.trans Ew13.out (Ext.trans NJ1.out (Ext.trans Ew36.out (Ext.trans NJ4.out Ew41.out)))))).1.1 (by simp)
        have fx1 := fun z : ExtX w41 [] => z.cell (p := ⟨w7.heap.size, 1, none⟩) (Kx.out.ext (Ext.trans EV3.out (Ext.trans Ew13.out (Ext.trans NJ1.out (Ext.trans Ew36.out (Ext.trans NJ4.out Ew41.out)))))).1.2.1 (by simp)
        have fx2 := fun z : ExtX w41 [] => z.cell (p := ⟨w7.heap.size, 2, none⟩) (Kx.out.ext (Ext.trans EV3.out (Ext.trans Ew13.out (Ext.trans NJ1.out (Ext.trans Ew36.out (Ext.trans NJ4.out Ew41.out)))))).1.2.2.1 (by simp)
        have fx3 := fun z : ExtX w41 [] => z.cell (p := ⟨w7.heap.size, 3, none⟩) (Kx.out.ext (Ext.trans EV3.out (Ext.trans Ew13.out (Ext.trans NJ1.out (Ext.trans Ew36.out (Ext.trans NJ4.out Ew41.out)))))).1.2.2.2 (by simp)
        have fy0 := fun z : ExtX w41 [] => z.cell (p := ⟨gy, 0, none⟩) (Ky_1.out.ext (Ext.trans Ew36.out (Ext.trans NJ4.out Ew41.out))).1.1 (by simp)
        have fy1 := fun z : ExtX w41 [] => z.cell (p := ⟨gy, 1, none⟩) (Ky_1.out.ext (Ext.trans Ew36.out (Ext.trans NJ4.out Ew41.out))).1.2.1 (by simp)
        have fy2 := fun z : ExtX w41 [] => z.cell (p := ⟨gy, 2, none⟩) (Ky_1.out.ext (Ext.trans Ew36.out (Ext.trans NJ4.out Ew41.out))).1.2.2.1 (by simp)
        have fy3 := fun z : ExtX w41 [] => z.cell (p := ⟨gy, 3, none⟩) (Ky_1.out.ext (Ext.trans Ew36.out (Ext.trans NJ4.out Ew41.out))).1.2.2.2 (by simp)
        have fz0 := fun z : ExtX w41 [] => z.cell (p := ⟨gz, 0, none⟩) (Kz_4.out.ext Ew41.out).1.1 (by simp)
        have fz1 := fun z : ExtX w41 [] => z.cell (p := ⟨gz, 1, none⟩) (Kz_4.out.ext Ew41.out).1.2.1 (by simp)
        have fz2 := fun z : ExtX w41 [] => z.cell (p := ⟨gz, 2, none⟩) (Kz_4.out.ext Ew41.out).1.2.2.1 (by simp)
        have fz3 := fun z : ExtX w41 [] => z.cell (p := ⟨gz, 3, none⟩) (Kz_4.out.ext Ew41.out).1.2.2.2 (by simp)
        repeat (refine lexAt_still (by rfl) ?_; go_big_quiet_step (fail); refine wpQuiet_nil ?_)
        refine lexAt_move (by rfl) (by kernel_rfl) ?_
        go_wp2_with fail
        refine (same_any (some ⟨gD, 0, none⟩) 0 0 ((u.path ps u.init).drop q) _ _ _ ((u.path ps u.init).drop q) w41 (HBT.out.below Ew41.out) ?_ HKQ.out).mono ?_
        · exact ⟨by have := HPZ.out; omega, fun h => absurd h (by omega)⟩
        rintro e w42 ⟨rfl, hE⟩
        have Ew42 := Lib.hid hE
        clear hE
        rw [decide_eq_true rfl]
        go_wp2_with fail
        refine And.intro (inX_of_ext _ Ew42.out) ?_
        repeat (refine lexAt_still (by rfl) ?_; go_big_quiet_step (fail); refine wpQuiet_nil ?_)
        refine lexAt_move (by rfl) (by kernel_rfl) ?_
        go_wp2_with fail
        refine (qadd_any sy Ay ny cy ty By my dy _ sz Az nz cz tz Bz mz dz _ w42 ((Qy_1.out.ext (Ext.trans Ew36.out (Ext.trans NJ4.out (Ext.trans Ew41.out Ew42.out)))).arg (sz_profV (fun i hi => HTK.out.sz hi)) (by omega)) ((Qz_4.out.ext (Ext.trans Ew41.out Ew42.out)).arg (sz_bestV HSD.out) (by omega))).mono ?_
        rintro e w43 ⟨ss, As, ns, cs, ts, Bs, ms, ds, rfl, hQ, hE⟩
        have Ew43 := Lib.hid hE
        clear hE
        have Qs := Lib.hid hQ
        clear hQ
        go_wp2_with fail
        refine And.intro (inX_of_ext _ (Ext.trans Ew42.out Ew43.out)) ?_
        repeat (refine lexAt_still (by rfl) ?_; go_big_quiet_step (fail); refine wpQuiet_nil ?_)
        refine lexAt_move (by rfl) (by kernel_rfl) ?_
        go_wp2_with fail
        refine (qequal_any sx Ax nx cx tx Bx mx dx _ ss As ns cs ts Bs ms ds _ w43 ((Qx.out.ext (Ext.trans Ew8.out (Ext.trans EV3.out (Ext.trans Ew13.out (Ext.trans NJ1.out (Ext.trans Ew36.out (Ext.trans NJ4.out (Ext.trans Ew41.out (Ext.trans Ew42.out Ew43.out))))))))).arg (sz_bestV HSZ.out) (by omega)) (Qs.out.arg ((sz_profV (fun i hi => HTK.out.sz hi)).add (sz_bestV HSD.out)) (by omega))).mono ?_
        rintro e w44 ⟨rfl, hE⟩
        have Ew44 := Lib.hid hE
        clear hE
        rw [decide_eq_true HDF.out.2.2.2]
        go_wp2_with fail
        refine And.intro (inX_of_ext _ (Ext.trans Ew42.out (Ext.trans Ew43.out Ew44.out))) ?_
        repeat (refine lexAt_still (by rfl) ?_; go_big_quiet_step (fail); refine wpQuiet_nil ?_)
        refine lexAt_nil ?_
        clear fx0 fx1 fx2 fx3 fy0 fy1 fy2 fy3 fz0 fz1 fz2 fz3
        go_wp2_with fail
        go_ret
        exact ⟨rfl, (Ext.trans Ew1.out (Ext.trans Ew2.out (Ext.trans Ew3.out (Ext.trans Ew7.out (Ext.trans Ew8.out (Ext.trans EV3.out (Ext.trans Ew13.out (Ext.trans NJ1.out (Ext.trans Ew36.out (Ext.trans NJ4.out (Ext.trans Ew41.out (Ext.trans Ew42.out (Ext.trans Ew43.out Ew44.out)))))))))))))⟩
    have hcq2 : ¬ q = cp := fun e => hcq e.symm
    cases P
    · skip
      refine wp_region_havS [9] [0, 1, 2, 3, 4, 5, 6, 7, 8] [10, 11, 12] (fun _ => .cells #[.bool false, .slice none 0 0, .bool false, .slice none 0 0] 34) (by kernel_rfl) (by kernel_rfl) ?_ ?_
      · intro f hf
        simp only [List.mem_cons, List.not_mem_nil, or_false] at hf
        rcases hf with rfl
        all_goals exact makes_q (by rfl) rfl
      have hE : Ext w17 w17.drew := Ext.rfl'.drew
      generalize w17.drew = w45 at *
      have Ew45 := Lib.hid hE
      clear hE
      have fv0 := fun z : ExtX w45 [] => z.cell (p := ⟨w7.heap.size + 1, 0, none⟩) (KV2.out.ext (Ext.trans Ew13.out (Ext.trans NJ1.out Ew45.out))).1 (by simp)
      have fv1 := fun z : ExtX w45 [] => z.cell (p := ⟨w7.heap.size + 1, 1, none⟩) (KV2.out.ext (Ext.trans Ew13.out (Ext.trans NJ1.out Ew45.out))).2.1 (by simp)
      have fv2 := fun z : ExtX w45 [] => z.cell (p := ⟨w7.heap.size + 1, 2, none⟩) (KV2.out.ext (Ext.trans Ew13.out (Ext.trans NJ1.out Ew45.out))).2.2.1 (by simp)
      have fv3 := fun z : ExtX w45 [] => z.cell (p := ⟨w7.heap.size + 1, 3, none⟩) (KV2.out.ext (Ext.trans Ew13.out (Ext.trans NJ1.out Ew45.out))).2.2.2.1 (by simp)
      have fv4 := fun z : ExtX w45 [] => z.cell (p := ⟨w7.heap.size + 1, 4, none⟩) (KV2.out.ext (Ext.trans Ew13.out (Ext.trans NJ1.out Ew45.out))).2.2.2.2.1 (by simp)
      have fv5 := fun z : ExtX w45 [] => z.cell (p := ⟨w7.heap.size + 1, 5, none⟩) (KV2.out.ext (Ext.trans Ew13.out (Ext.trans NJ1.out Ew45.out))).2.2.2.2.2.1 (by simp)
      have fv6 := fun z : ExtX w45 [] => z.cell (p := ⟨w7.heap.size + 1, 6, none⟩) (KV2.out.ext (Ext.trans Ew13.out (Ext.trans NJ1.out Ew45.out))).2.2.2.2.2.2.1 (by simp)
      have fv7 := fun z : ExtX w45 [] => z.cell (p := ⟨w7.heap.size + 1, 7, none⟩) (KV2.out.ext (Ext.trans Ew13.out (Ext.trans NJ1.out Ew45.out))).2.2.2.2.2.2.2.1 (by simp)
      have fv8 := fun z : ExtX w45 [] => z.cell (p := ⟨w7.heap.size + 1, 8, none⟩) (KV2.out.ext (Ext.trans Ew13.out (Ext.trans NJ1.out Ew45.out))).2.2.2.2.2.2.2.2 (by simp)
      intro w46 hE
      have Ew46 := Lib.hid hE
      clear hE
      repeat (refine havAt_still (by rfl) (by rfl) ?_; go_big_quiet_step (fail); refine wpQuiet_nil ?_)
      refine havAt_move (by rfl) (by rfl) (by kernel_rfl) ?_
      go_wp2_with fail
      refine (best_any v A n c _ _ _ (ps.drop q) w46 (HSV.out ▸ (HS.out.below (Ext.trans Ew1.out (Ext.trans Ew2.out (Ext.trans Ew3.out (Ext.trans Ew7.out (Ext.trans Ew8.out (Ext.trans EV3.out (Ext.trans Ew13.out (Ext.trans NJ1.out (Ext.trans Ew45.out Ew46.out))))))))))) hn ?_ ?_).mono ?_
      · exact ⟨by have := HDL.out; omega, fun h => absurd h (by omega)⟩
      · exact HKQ.out
      rintro e w47 ⟨vB2, sz, Az, nz, cz, tz, Bz, mz, dz, rfl, hQ, hE, hno, hrow⟩
      have Ew47 := Lib.hid hE
      clear hE
      obtain ⟨gD, rfl, hgD, hRB, hcB⟩ := hrow HDF.out.2.1
      have HGD := Lib.hid hgD
      have HGE := Lib.hid hRB.1
      clear hno hrow hgD
      rw [HDF.out.2.1, HDL.out]
      have hbf := best_bools (best_facts HDF.out.2.1).2.2.2 hRB hcB
      rw [HDL.out, HDF.out.2.2.1] at hbf
      have HBD := Lib.hid hbf
      have Qz := Lib.hid hQ
      clear hRB hcB hQ hbf
      go_wp2_with fail
      refine And.intro Ew47.out (fun w48 hE => ?_)
      have Ew48 := Lib.hid hE
      clear hE
      repeat (refine havAt_still (by rfl) (by rfl) ?_; go_big_quiet_step (fail); refine wpQuiet_nil ?_)
      refine havAt_end ?_
      intro gs hgs hne
      have hpz := hgs 9 (by simp)
      change IdxAt _ _ _ _ _ _ (Act.put _ (some 17) (.pointer (some ⟨gs 9, 0, none⟩))) _
      generalize gs 9 = gz at *
      clear hgs hne
      simp only [Act.put, List.setIfInBounds_toArray, List.set_cons_succ, List.set_cons_zero]
      have Pz := Lib.hid hpz
      have Kz := Lib.hid (Cell4.of_blk hpz.2.1)
      clear hpz
      repeat (refine idxAt_still (by rfl) (by rfl) ?_; go_big_quiet_step (fail); refine wpQuiet_nil ?_)
      have HBE := Lib.hid (HBD.out.below Ew48.out)
      have hgz : gz ≥ w45.heap.size := Pz.out.1
      have HBT := Lib.hid (bools_touch HBE.out (touch_put4 w48 gz 0 (.bool sz) (.slice Az nz cz) (.bool tz) (.slice Bz mz dz)) (fun b hb => by obtain ⟨o9, h9⟩ := hb; injection h9 with h9; injection h9 with h9a h9b; subst h9a; have h1 := HGD.out; have h2 := HBD.out; have h3 := Pz.out.2.2 (w46.heap.size, w47.heap.size) (by simp); have h4 := HGE.out; omega))
      unfold put4 at HBT
      simp only [Nat.zero_add] at HBT
      obtain ⟨⟨o0, o1, o2, o3⟩, ⟨q0, q1, q2, q3⟩, ol⟩ := Kz.out
      refine idxAt_move (by rfl) (by rfl) (by kernel_rfl) ?_
      go_wp2_with fail
      refine And.intro (inX_put (p := ⟨gz, 3, none⟩) (inX_put (p := ⟨gz, 2, none⟩) (inX_put (p := ⟨gz, 1, none⟩) (inX_put (p := ⟨gz, 0, none⟩) (inX_of_ext _ (Ext.trans Ew46.out (Ext.trans Ew47.out Ew48.out))) (.inr Pz.out.1) _) (.inr Pz.out.1) _) (.inr Pz.out.1) _) (.inr Pz.out.1) _) ?_
      clear o0 o1 o2 o3 q0 q1 q2 q3 ol
      have Kz_5 := Lib.hid (Kz.out.put4 (.bool sz) (.slice Az nz cz) (.bool tz) (.slice Bz mz dz))
      have NJ5 := Lib.hid (ext_put4 (Ext.trans Ew46.out (Ext.trans Ew47.out Ew48.out)) (g := gz) Pz.out.1 0 (.bool sz) (.slice Az nz cz) (.bool tz) (.slice Bz mz dz))
      have NZ5 : Hid (w48.heap.size ≤ (put4 w48 (gz) 0 (.bool sz) (.slice Az nz cz) (.bool tz) (.slice Bz mz dz)).heap.size) := by unfold Hid; rw [put4_size]; exact Nat.le_refl _
      have Qz_5 := Lib.hid ((Qz.out.ext Ew48.out).put4A (g := gz) (Qz.out.span (Pz.out.2.2 (w46.heap.size, w47.heap.size) (by simp))) 0 (.bool sz) (.slice Az nz cz) (.bool tz) (.slice Bz mz dz))
      unfold put4 at Kz_5 NJ5 NZ5 Qz_5
      simp only [Nat.zero_add] at Kz_5 NJ5 NZ5 Qz_5
      generalize ((((w48.setCell ⟨gz, 0, none⟩ (.bool sz)).setCell ⟨gz, 1, none⟩ (.slice Az nz cz)).setCell ⟨gz, 2, none⟩ (.bool tz)).setCell ⟨gz, 3, none⟩ (.slice Bz mz dz)) = w49 at *
      repeat (refine idxAt_still (by rfl) (by rfl) ?_; go_big_quiet_step (fail); refine wpQuiet_nil ?_)
      refine idxAt_nil ?_
      clear fv0 fv1 fv2 fv3 fv4 fv5 fv6 fv7 fv8
      go_wp2_with fail
      refine wp_region_lexS (C := InX w49.drew []) (by kernel_rfl) (by kernel_rfl) (inX_self _ _) ?_
      have hE : Ext w49 w49.drew := Ext.rfl'.drew
      generalize w49.drew = w50 at *
      have Ew50 := Lib.hid hE
      clear hE
      have fx0 := fun z : ExtX w50 [] => z.cell (p := ⟨w7.heap.size, 0, none⟩) (Kx.out.ext (Ext.trans EV3.out (Ext.trans Ew13.out (Ext.trans NJ1.out (Ext.trans Ew45.out (Ext.trans NJ5.out Ew50.out)))))).1.1 (by simp)
      have fx1 := fun z : ExtX w50 [] => z.cell (p := ⟨w7.heap.size, 1, none⟩) (Kx.out.ext (Ext.trans EV3.out (Ext.trans Ew13.out (Ext.trans NJ1.out (Ext.trans Ew45.out (Ext.trans NJ5.out Ew50.out)))))).1.2.1 (by simp)
      have fx2 := fun z : ExtX w50 [] => z.cell (p := ⟨w7.heap.size, 2, none⟩) (Kx.out.ext (Ext.trans EV3.out (Ext.trans Ew13.out (Ext.trans NJ1.out (Ext.trans Ew45.out (Ext.trans NJ5.out Ew50.out)))))).1.2.2.1 (by simp)
      have fx3 := fun z : ExtX w50 [] => z.cell (p := ⟨w7.heap.size, 3, none⟩) (Kx.out.ext (Ext.trans EV3.out (Ext.trans Ew13.out (Ext.trans NJ1.out (Ext.trans Ew45.out (Ext.trans NJ5.out Ew50.out)))))).1.2.2.2 (by simp)
      have fy0 := fun z : ExtX w50 [] => z.cell (p := ⟨gy, 0, none⟩) (Ky_1.out.ext (Ext.trans Ew45.out (Ext.trans NJ5.out Ew50.out))).1.1 (by simp)
      have fy1 := fun z : ExtX w50 [] => z.cell (p := ⟨gy, 1, none⟩) (Ky_1.out.ext (Ext.trans Ew45.out (Ext.trans NJ5.out Ew50.out))).1.2.1 (by simp)
      have fy2 := fun z : ExtX w50 [] => z.cell (p := ⟨gy, 2, none⟩) (Ky_1.out.ext (Ext.trans Ew45.out (Ext.trans NJ5.out Ew50.out))).1.2.2.1 (by simp)
      have fy3 := fun z : ExtX w50 [] => z.cell (p := ⟨gy, 3, none⟩) (Ky_1.out.ext (Ext.trans Ew45.out (Ext.trans NJ5.out Ew50.out))).1.2.2.2 (by simp)
      have fz0 := fun z : ExtX w50 [] => z.cell (p := ⟨gz, 0, none⟩) (Kz_5.out.ext Ew50.out).1.1 (by simp)
      have fz1 := fun z : ExtX w50 [] => z.cell (p := ⟨gz, 1, none⟩) (Kz_5.out.ext Ew50.out).1.2.1 (by simp)
      have fz2 := fun z : ExtX w50 [] => z.cell (p := ⟨gz, 2, none⟩) (Kz_5.out.ext Ew50.out).1.2.2.1 (by simp)
      have fz3 := fun z : ExtX w50 [] => z.cell (p := ⟨gz, 3, none⟩) (Kz_5.out.ext Ew50.out).1.2.2.2 (by simp)
      repeat (refine lexAt_still (by rfl) ?_; go_big_quiet_step (fail); refine wpQuiet_nil ?_)
      refine lexAt_move (by rfl) (by kernel_rfl) ?_
      go_wp2_with fail
      refine (same_any (some ⟨gD, 0, none⟩) 0 0 ((u.path ps u.init).drop q) _ _ _ ((u.path ps u.init).drop q) w50 (HBT.out.below Ew50.out) ?_ HKQ.out).mono ?_
      · exact ⟨by have := HPZ.out; omega, fun h => absurd h (by omega)⟩
      rintro e w51 ⟨rfl, hE⟩
      have Ew51 := Lib.hid hE
      clear hE
      rw [decide_eq_true rfl]
      go_wp2_with fail
      refine And.intro (inX_of_ext _ Ew51.out) ?_
      repeat (refine lexAt_still (by rfl) ?_; go_big_quiet_step (fail); refine wpQuiet_nil ?_)
      refine lexAt_move (by rfl) (by kernel_rfl) ?_
      go_wp2_with fail
      refine (qadd_any sy Ay ny cy ty By my dy _ sz Az nz cz tz Bz mz dz _ w51 ((Qy_1.out.ext (Ext.trans Ew45.out (Ext.trans NJ5.out (Ext.trans Ew50.out Ew51.out)))).arg (sz_profV (fun i hi => HTK.out.sz hi)) (by omega)) ((Qz_5.out.ext (Ext.trans Ew50.out Ew51.out)).arg (sz_bestV HSD.out) (by omega))).mono ?_
      rintro e w52 ⟨ss, As, ns, cs, ts, Bs, ms, ds, rfl, hQ, hE⟩
      have Ew52 := Lib.hid hE
      clear hE
      have Qs := Lib.hid hQ
      clear hQ
      go_wp2_with fail
      refine And.intro (inX_of_ext _ (Ext.trans Ew51.out Ew52.out)) ?_
      repeat (refine lexAt_still (by rfl) ?_; go_big_quiet_step (fail); refine wpQuiet_nil ?_)
      refine lexAt_move (by rfl) (by kernel_rfl) ?_
      go_wp2_with fail
      refine (qequal_any sx Ax nx cx tx Bx mx dx _ ss As ns cs ts Bs ms ds _ w52 ((Qx.out.ext (Ext.trans Ew8.out (Ext.trans EV3.out (Ext.trans Ew13.out (Ext.trans NJ1.out (Ext.trans Ew45.out (Ext.trans NJ5.out (Ext.trans Ew50.out (Ext.trans Ew51.out Ew52.out))))))))).arg (sz_bestV HSZ.out) (by omega)) (Qs.out.arg ((sz_profV (fun i hi => HTK.out.sz hi)).add (sz_bestV HSD.out)) (by omega))).mono ?_
      rintro e w53 ⟨rfl, hE⟩
      have Ew53 := Lib.hid hE
      clear hE
      rw [decide_eq_true HDF.out.2.2.2]
      go_wp2_with fail
      refine And.intro (inX_of_ext _ (Ext.trans Ew51.out (Ext.trans Ew52.out Ew53.out))) ?_
      repeat (refine lexAt_still (by rfl) ?_; go_big_quiet_step (fail); refine wpQuiet_nil ?_)
      refine lexAt_nil ?_
      clear fx0 fx1 fx2 fx3 fy0 fy1 fy2 fy3 fz0 fz1 fz2 fz3
      go_wp2_with fail
      go_ret
      exact ⟨rfl, (Ext.trans Ew1.out (Ext.trans Ew2.out (Ext.trans Ew3.out (Ext.trans Ew7.out (Ext.trans Ew8.out (Ext.trans EV3.out (Ext.trans Ew13.out (Ext.trans NJ1.out (Ext.trans Ew45.out (Ext.trans NJ5.out (Ext.trans Ew50.out (Ext.trans Ew51.out (Ext.trans Ew52.out Ew53.out)))))))))))))⟩
    · skip
      refine wp_region_havS [9] [0, 1, 2, 3, 4, 5, 6, 7, 8] [10, 11, 12] (fun _ => .cells #[.bool false, .slice none 0 0, .bool false, .slice none 0 0] 34) (by kernel_rfl) (by kernel_rfl) ?_ ?_
      · intro f hf
        simp only [List.mem_cons, List.not_mem_nil, or_false] at hf
        rcases hf with rfl
        all_goals exact makes_q (by rfl) rfl
      have hE : Ext w17 w17.drew := Ext.rfl'.drew
      generalize w17.drew = w54 at *
      have Ew54 := Lib.hid hE
      clear hE
      have fv0 := fun z : ExtX w54 [] => z.cell (p := ⟨w7.heap.size + 1, 0, none⟩) (KV2.out.ext (Ext.trans Ew13.out (Ext.trans NJ1.out Ew54.out))).1 (by simp)
      have fv1 := fun z : ExtX w54 [] => z.cell (p := ⟨w7.heap.size + 1, 1, none⟩) (KV2.out.ext (Ext.trans Ew13.out (Ext.trans NJ1.out Ew54.out))).2.1 (by simp)
      have fv2 := fun z : ExtX w54 [] => z.cell (p := ⟨w7.heap.size + 1, 2, none⟩) (KV2.out.ext (Ext.trans Ew13.out (Ext.trans NJ1.out Ew54.out))).2.2.1 (by simp)
      have fv3 := fun z : ExtX w54 [] => z.cell (p := ⟨w7.heap.size + 1, 3, none⟩) (KV2.out.ext (Ext.trans Ew13.out (Ext.trans NJ1.out Ew54.out))).2.2.2.1 (by simp)
      have fv4 := fun z : ExtX w54 [] => z.cell (p := ⟨w7.heap.size + 1, 4, none⟩) (KV2.out.ext (Ext.trans Ew13.out (Ext.trans NJ1.out Ew54.out))).2.2.2.2.1 (by simp)
      have fv5 := fun z : ExtX w54 [] => z.cell (p := ⟨w7.heap.size + 1, 5, none⟩) (KV2.out.ext (Ext.trans Ew13.out (Ext.trans NJ1.out Ew54.out))).2.2.2.2.2.1 (by simp)
      have fv6 := fun z : ExtX w54 [] => z.cell (p := ⟨w7.heap.size + 1, 6, none⟩) (KV2.out.ext (Ext.trans Ew13.out (Ext.trans NJ1.out Ew54.out))).2.2.2.2.2.2.1 (by simp)
      have fv7 := fun z : ExtX w54 [] => z.cell (p := ⟨w7.heap.size + 1, 7, none⟩) (KV2.out.ext (Ext.trans Ew13.out (Ext.trans NJ1.out Ew54.out))).2.2.2.2.2.2.2.1 (by simp)
      have fv8 := fun z : ExtX w54 [] => z.cell (p := ⟨w7.heap.size + 1, 8, none⟩) (KV2.out.ext (Ext.trans Ew13.out (Ext.trans NJ1.out Ew54.out))).2.2.2.2.2.2.2.2 (by simp)
      intro w55 hE
      have Ew55 := Lib.hid hE
      clear hE
      repeat (refine havAt_still (by rfl) (by rfl) ?_; go_big_quiet_step (fail); refine wpQuiet_nil ?_)
      refine havAt_move (by rfl) (by rfl) (by kernel_rfl) ?_
      go_wp2_with fail
      refine (best_any v A n c _ _ _ (ps.drop q) w55 (HSV.out ▸ (HS.out.below (Ext.trans Ew1.out (Ext.trans Ew2.out (Ext.trans Ew3.out (Ext.trans Ew7.out (Ext.trans Ew8.out (Ext.trans EV3.out (Ext.trans Ew13.out (Ext.trans NJ1.out (Ext.trans Ew54.out Ew55.out))))))))))) hn ?_ ?_).mono ?_
      · exact ⟨by have := HDL.out; omega, fun h => absurd h (by omega)⟩
      · exact HKQ.out
      rintro e w56 ⟨vB2, sz, Az, nz, cz, tz, Bz, mz, dz, rfl, hQ, hE, hno, hrow⟩
      have Ew56 := Lib.hid hE
      clear hE
      obtain ⟨gD, rfl, hgD, hRB, hcB⟩ := hrow HDF.out.2.1
      have HGD := Lib.hid hgD
      have HGE := Lib.hid hRB.1
      clear hno hrow hgD
      rw [HDF.out.2.1, HDL.out]
      have hbf := best_bools (best_facts HDF.out.2.1).2.2.2 hRB hcB
      rw [HDL.out, HDF.out.2.2.1] at hbf
      have HBD := Lib.hid hbf
      have Qz := Lib.hid hQ
      clear hRB hcB hQ hbf
      go_wp2_with fail
      refine And.intro Ew56.out (fun w57 hE => ?_)
      have Ew57 := Lib.hid hE
      clear hE
      repeat (refine havAt_still (by rfl) (by rfl) ?_; go_big_quiet_step (fail); refine wpQuiet_nil ?_)
      refine havAt_end ?_
      intro gs hgs hne
      have hpz := hgs 9 (by simp)
      change IdxAt _ _ _ _ _ _ (Act.put _ (some 17) (.pointer (some ⟨gs 9, 0, none⟩))) _
      generalize gs 9 = gz at *
      clear hgs hne
      simp only [Act.put, List.setIfInBounds_toArray, List.set_cons_succ, List.set_cons_zero]
      have Pz := Lib.hid hpz
      have Kz := Lib.hid (Cell4.of_blk hpz.2.1)
      clear hpz
      repeat (refine idxAt_still (by rfl) (by rfl) ?_; go_big_quiet_step (fail); refine wpQuiet_nil ?_)
      have HBE := Lib.hid (HBD.out.below Ew57.out)
      have hgz : gz ≥ w54.heap.size := Pz.out.1
      have HBT := Lib.hid (bools_touch HBE.out (touch_put4 w57 gz 0 (.bool sz) (.slice Az nz cz) (.bool tz) (.slice Bz mz dz)) (fun b hb => by obtain ⟨o9, h9⟩ := hb; injection h9 with h9; injection h9 with h9a h9b; subst h9a; have h1 := HGD.out; have h2 := HBD.out; have h3 := Pz.out.2.2 (w55.heap.size, w56.heap.size) (by simp); have h4 := HGE.out; omega))
      unfold put4 at HBT
      simp only [Nat.zero_add] at HBT
      obtain ⟨⟨o0, o1, o2, o3⟩, ⟨q0, q1, q2, q3⟩, ol⟩ := Kz.out
      refine idxAt_move (by rfl) (by rfl) (by kernel_rfl) ?_
      go_wp2_with fail
      refine And.intro (inX_put (p := ⟨gz, 3, none⟩) (inX_put (p := ⟨gz, 2, none⟩) (inX_put (p := ⟨gz, 1, none⟩) (inX_put (p := ⟨gz, 0, none⟩) (inX_of_ext _ (Ext.trans Ew55.out (Ext.trans Ew56.out Ew57.out))) (.inr Pz.out.1) _) (.inr Pz.out.1) _) (.inr Pz.out.1) _) (.inr Pz.out.1) _) ?_
      clear o0 o1 o2 o3 q0 q1 q2 q3 ol
      have Kz_6 := Lib.hid (Kz.out.put4 (.bool sz) (.slice Az nz cz) (.bool tz) (.slice Bz mz dz))
      have NJ6 := Lib.hid (ext_put4 (Ext.trans Ew55.out (Ext.trans Ew56.out Ew57.out)) (g := gz) Pz.out.1 0 (.bool sz) (.slice Az nz cz) (.bool tz) (.slice Bz mz dz))
      have NZ6 : Hid (w57.heap.size ≤ (put4 w57 (gz) 0 (.bool sz) (.slice Az nz cz) (.bool tz) (.slice Bz mz dz)).heap.size) := by unfold Hid; rw [put4_size]; exact Nat.le_refl _
      have Qz_6 := Lib.hid ((Qz.out.ext Ew57.out).put4A (g := gz) (Qz.out.span (Pz.out.2.2 (w55.heap.size, w56.heap.size) (by simp))) 0 (.bool sz) (.slice Az nz cz) (.bool tz) (.slice Bz mz dz))
      unfold put4 at Kz_6 NJ6 NZ6 Qz_6
      simp only [Nat.zero_add] at Kz_6 NJ6 NZ6 Qz_6
      generalize ((((w57.setCell ⟨gz, 0, none⟩ (.bool sz)).setCell ⟨gz, 1, none⟩ (.slice Az nz cz)).setCell ⟨gz, 2, none⟩ (.bool tz)).setCell ⟨gz, 3, none⟩ (.slice Bz mz dz)) = w58 at *
      repeat (refine idxAt_still (by rfl) (by rfl) ?_; go_big_quiet_step (fail); refine wpQuiet_nil ?_)
      refine idxAt_nil ?_
      clear fv0 fv1 fv2 fv3 fv4 fv5 fv6 fv7 fv8
      go_wp2_with fail
      refine wp_region_lexS (C := InX w58.drew []) (by kernel_rfl) (by kernel_rfl) (inX_self _ _) ?_
      have hE : Ext w58 w58.drew := Ext.rfl'.drew
      generalize w58.drew = w59 at *
      have Ew59 := Lib.hid hE
      clear hE
      have fx0 := fun z : ExtX w59 [] => z.cell (p := ⟨w7.heap.size, 0, none⟩) (Kx.out.ext (Ext.trans EV3.out (Ext.trans Ew13.out (Ext.trans NJ1.out (Ext.trans Ew54.out (Ext.trans NJ6.out Ew59.out)))))).1.1 (by simp)
      have fx1 := fun z : ExtX w59 [] => z.cell (p := ⟨w7.heap.size, 1, none⟩) (Kx.out.ext (Ext.trans EV3.out (Ext.trans Ew13.out (Ext.trans NJ1.out (Ext.trans Ew54.out (Ext.trans NJ6.out Ew59.out)))))).1.2.1 (by simp)
      have fx2 := fun z : ExtX w59 [] => z.cell (p := ⟨w7.heap.size, 2, none⟩) (Kx.out.ext (Ext.trans EV3.out (Ext.trans Ew13.out (Ext.trans NJ1.out (Ext.trans Ew54.out (Ext.trans NJ6.out Ew59.out)))))).1.2.2.1 (by simp)
      have fx3 := fun z : ExtX w59 [] => z.cell (p := ⟨w7.heap.size, 3, none⟩) (Kx.out.ext (Ext.trans EV3.out (Ext.trans Ew13.out (Ext.trans NJ1.out (Ext.trans Ew54.out (Ext.trans NJ6.out Ew59.out)))))).1.2.2.2 (by simp)
      have fy0 := fun z : ExtX w59 [] => z.cell (p := ⟨gy, 0, none⟩) (Ky_1.out.ext (Ext.trans Ew54.out (Ext.trans NJ6.out Ew59.out))).1.1 (by simp)
      have fy1 := fun z : ExtX w59 [] => z.cell (p := ⟨gy, 1, none⟩) (Ky_1.out.ext (Ext.trans Ew54.out (Ext.trans NJ6.out Ew59.out))).1.2.1 (by simp)
      have fy2 := fun z : ExtX w59 [] => z.cell (p := ⟨gy, 2, none⟩) (Ky_1.out.ext (Ext.trans Ew54.out (Ext.trans NJ6.out Ew59.out))).1.2.2.1 (by simp)
      have fy3 := fun z : ExtX w59 [] => z.cell (p := ⟨gy, 3, none⟩) (Ky_1.out.ext (Ext.trans Ew54.out (Ext.trans NJ6.out Ew59.out))).1.2.2.2 (by simp)
      have fz0 := fun z : ExtX w59 [] => z.cell (p := ⟨gz, 0, none⟩) (Kz_6.out.ext Ew59.out).1.1 (by simp)
      have fz1 := fun z : ExtX w59 [] => z.cell (p := ⟨gz, 1, none⟩) (Kz_6.out.ext Ew59.out).1.2.1 (by simp)
      have fz2 := fun z : ExtX w59 [] => z.cell (p := ⟨gz, 2, none⟩) (Kz_6.out.ext Ew59.out).1.2.2.1 (by simp)
      have fz3 := fun z : ExtX w59 [] => z.cell (p := ⟨gz, 3, none⟩) (Kz_6.out.ext Ew59.out).1.2.2.2 (by simp)
      repeat (refine lexAt_still (by rfl) ?_; go_big_quiet_step (fail); refine wpQuiet_nil ?_)
      refine lexAt_move (by rfl) (by kernel_rfl) ?_
      go_wp2_with fail
      refine (same_any (some ⟨gD, 0, none⟩) 0 0 ((u.path ps u.init).drop q) _ _ _ ((u.path ps u.init).drop q) w59 (HBT.out.below Ew59.out) ?_ HKQ.out).mono ?_
      · exact ⟨by have := HPZ.out; omega, fun h => absurd h (by omega)⟩
      rintro e w60 ⟨rfl, hE⟩
      have Ew60 := Lib.hid hE
      clear hE
      rw [decide_eq_true rfl]
      go_wp2_with fail
      refine And.intro (inX_of_ext _ Ew60.out) ?_
      repeat (refine lexAt_still (by rfl) ?_; go_big_quiet_step (fail); refine wpQuiet_nil ?_)
      refine lexAt_move (by rfl) (by kernel_rfl) ?_
      go_wp2_with fail
      refine (qadd_any sy Ay ny cy ty By my dy _ sz Az nz cz tz Bz mz dz _ w60 ((Qy_1.out.ext (Ext.trans Ew54.out (Ext.trans NJ6.out (Ext.trans Ew59.out Ew60.out)))).arg (sz_profV (fun i hi => HTK.out.sz hi)) (by omega)) ((Qz_6.out.ext (Ext.trans Ew59.out Ew60.out)).arg (sz_bestV HSD.out) (by omega))).mono ?_
      rintro e w61 ⟨ss, As, ns, cs, ts, Bs, ms, ds, rfl, hQ, hE⟩
      have Ew61 := Lib.hid hE
      clear hE
      have Qs := Lib.hid hQ
      clear hQ
      go_wp2_with fail
      refine And.intro (inX_of_ext _ (Ext.trans Ew60.out Ew61.out)) ?_
      repeat (refine lexAt_still (by rfl) ?_; go_big_quiet_step (fail); refine wpQuiet_nil ?_)
      refine lexAt_move (by rfl) (by kernel_rfl) ?_
      go_wp2_with fail
      refine (qequal_any sx Ax nx cx tx Bx mx dx _ ss As ns cs ts Bs ms ds _ w61 ((Qx.out.ext (Ext.trans Ew8.out (Ext.trans EV3.out (Ext.trans Ew13.out (Ext.trans NJ1.out (Ext.trans Ew54.out (Ext.trans NJ6.out (Ext.trans Ew59.out (Ext.trans Ew60.out Ew61.out))))))))).arg (sz_bestV HSZ.out) (by omega)) (Qs.out.arg ((sz_profV (fun i hi => HTK.out.sz hi)).add (sz_bestV HSD.out)) (by omega))).mono ?_
      rintro e w62 ⟨rfl, hE⟩
      have Ew62 := Lib.hid hE
      clear hE
      rw [decide_eq_true HDF.out.2.2.2]
      go_wp2_with fail
      refine And.intro (inX_of_ext _ (Ext.trans Ew60.out (Ext.trans Ew61.out Ew62.out))) ?_
      repeat (refine lexAt_still (by rfl) ?_; go_big_quiet_step (fail); refine wpQuiet_nil ?_)
      refine lexAt_nil ?_
      clear fx0 fx1 fx2 fx3 fy0 fy1 fy2 fy3 fz0 fz1 fz2 fz3
      go_wp2_with fail
      go_ret
      exact ⟨rfl, (Ext.trans Ew1.out (Ext.trans Ew2.out (Ext.trans Ew3.out (Ext.trans Ew7.out (Ext.trans Ew8.out (Ext.trans EV3.out (Ext.trans Ew13.out (Ext.trans NJ1.out (Ext.trans Ew54.out (Ext.trans NJ6.out (Ext.trans Ew59.out (Ext.trans Ew60.out (Ext.trans Ew61.out Ew62.out)))))))))))))⟩
end Go.Proofs.Ytjinpfnefeiooaa
