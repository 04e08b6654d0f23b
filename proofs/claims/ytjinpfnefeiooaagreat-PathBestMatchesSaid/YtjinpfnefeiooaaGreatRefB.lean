/- A part of the proof. -/
import Derived.Test.YtjinpfnefeiooaaGreatRefPr
namespace Go.Proofs.YtjinpfnefeiooaaGreat
open Go.RowKit

theorem lex_cons (b : Bool) (x y : List Bool) : lexAfter (b :: y) (b :: x) = lexAfter y x := by simp only [lexAfter, if_true]
theorem bits_pair : ∀ n, List.Pairwise (fun a b => lexAfter b a) (bitsL n)
 | 0 => by simp [bitsL]
 | n + 1 => by
  have ih := bits_pair n
  rw [bitsL, List.pairwise_append]
  refine ⟨?_, ?_, ?_⟩
  ·rw [List.pairwise_map]
   exact ih.imp fun {a b} h => by rw [lex_cons]; exact h
  ·rw [List.pairwise_map]
   exact ih.imp fun {a b} h => by rw [lex_cons]; exact h
  ·intro a ha b hb
   obtain ⟨x, _, rfl⟩ := List.mem_map.1 ha
   obtain ⟨y, _, rfl⟩ := List.mem_map.1 hb
   simp [lexAfter]
theorem lex_anti : ∀ {a b : List Bool}, a.length = b.length → lexAfter a b → lexAfter b a → a = b
 | [], [], _, _, _ => rfl
 | [], _ :: _, h, _, _ => by simp at h
 | _ :: _, [], h, _, _ => by simp at h
 | x :: a, y :: b, h, h1, h2 => by
  by_cases e : x = y
  ·subst e
   rw [lex_cons] at h1 h2
   rw [lex_anti (by simpa using h) h1 h2]
  ·simp only [lexAfter, if_neg e, if_neg (Ne.symm e)] at h1 h2
   exact absurd (h1.trans h2.symm) e
theorem bitsL_all : ∀ (n : Nat) (r : List Bool), r.length = n → r ∈ bitsL n
 | 0, [], _ => by simp [bitsL]
 | 0, _ :: _, h => by simp at h
 | n + 1, [], h => by simp at h
 | n + 1, b :: r, h => by
  have ih := bitsL_all n r (by simpa using h)
  rw [bitsL, List.mem_append]
  cases b
  ·exact .inl (List.mem_map.2 ⟨r, ih, rfl⟩)
  ·exact .inr (List.mem_map.2 ⟨r, ih, rfl⟩)
theorem best_end {u : U} {ps : List Rat} (h0 : u.pchk ps.length = 0) {b : List Bool} (h : BInv (fun r => u.profTo ps r ps.length) (u.exts ps.length u.init) (u.exts ps.length u.init).length b) :
  b = u.path ps u.init ∧ u.profTo ps b ps.length = u.bestV ps := by
 obtain ⟨hok, -⟩ := pchk_zero.1 h0
 obtain ⟨a1, a2, a3, a4⟩ := dp_main hok ps u.init (U.init_state (U.good hok))
 have hL := exts_filter u ps.length u.init
 have hbv : u.bestV ps = (u.dp ps u.init).v := by unfold U.bestV; rw [if_pos h0]
 have hp : List.Pairwise (fun a b => lexAfter b a) (u.exts ps.length u.init) := by rw [hL]; exact (bits_pair _).filter _
 have hmem : ∀ r, r ∈ u.exts ps.length u.init → r.length = ps.length ∧ u.feasFrom u.init r = true := fun r hr => by
  rw [hL] at hr
  obtain ⟨h1, h2⟩ := List.mem_filter.1 hr
  exact ⟨bitsL_mem _ _ h1, h2⟩
 have hin : u.path ps u.init ∈ u.exts ps.length u.init := by
  rw [hL]
  refine List.mem_filter.2 ⟨?_, a1⟩
  exact bitsL_all _ _ a2
 obtain ⟨j, hj, hjl, hbe, hmax, hfirst⟩ := h
 obtain ⟨i, hi, hie⟩ := List.getElem_of_mem hin
 have hie2 : (u.exts ps.length u.init).getD i [] = u.path ps u.init := by simp [List.getD, hi, hie]
 have hbm : b ∈ u.exts ps.length u.init := by rw [hbe]; simp [List.getD, hjl]
 obtain ⟨hbl, hbf⟩ := hmem b hbm
 have fp : u.profTo ps (u.path ps u.init) ps.length = (u.dp ps u.init).v := by rw [prof_pv (feas_of hok a1) a2, a3]
 have fb : u.profTo ps b ps.length = u.pv ps b u.init := prof_pv (feas_of hok hbf) hbl
 have h1 : u.profTo ps ((u.exts ps.length u.init).getD i []) ps.length ≤ u.profTo ps b ps.length := hmax i hi hi
 rw [hie2, fp] at h1
 obtain ⟨h2, h3⟩ := a4 b hbl hbf
 rw [← fb] at h2 h3
 have he : u.profTo ps b ps.length = (u.dp ps u.init).v := Rat.le_antisymm h2 h1
 refine ⟨?_, by rw [he, hbv]⟩
 have hji : j ≤ i := by
  rcases Nat.lt_or_ge i j with h | h
  ·have : u.profTo ps ((u.exts ps.length u.init).getD i []) ps.length < u.profTo ps b ps.length := hfirst i h
   rw [hie2, fp, he] at this
   exact absurd this (Rat.not_lt.2 Rat.le_refl)
  ·exact h
 by_cases e : j = i
 ·subst e
  rw [hbe, hie2]
 ·have h4 := List.pairwise_iff_getElem.1 hp j i hjl hi (by omega)
  have e1 : (u.exts ps.length u.init)[j] = b := by rw [hbe]; simp [List.getD, hjl]
  rw [e1, hie] at h4
  exact lex_anti (hbl.trans a2.symm) (h3 he) h4
theorem exts_pos {u : U} {ps : List Rat} (h0 : u.pchk ps.length = 0) : 0 < (u.exts ps.length u.init).length := by
 obtain ⟨hok, -⟩ := pchk_zero.1 h0
 obtain ⟨a1, a2, -, -⟩ := dp_main hok ps u.init (U.init_state (U.good hok))
 have hin : u.path ps u.init ∈ u.exts ps.length u.init := by
  rw [exts_filter u ps.length u.init]
  exact List.mem_filter.2 ⟨bitsL_all _ _ a2, a1⟩
 exact List.length_pos_of_mem hin
theorem exts_row {u : U} {n : Nat} {i : Nat} (hi : i < (u.exts n u.init).length) : ((u.exts n u.init).getD i []).length = n := by
 have hm : (u.exts n u.init).getD i [] ∈ u.exts n u.init := by simp [List.getD, hi]
 have hm2 : ∀ r, r ∈ u.exts n u.init → r.length = n := fun r hr => by
  rw [exts_filter] at hr
  exact bitsL_mem _ _ (List.mem_filter.1 hr).1
 exact hm2 _ hm
theorem exts_few (u : U) (n : Nat) : (u.exts n u.init).length ≤ 2 ^ n := by
 rw [exts_filter, ← bitsL_len n]
 exact List.length_filter_le _ _
end Go.Proofs.YtjinpfnefeiooaaGreat
namespace Go.Proofs.YtjinpfnefeiooaaGreat
open Go.RowKit

def RetBestR (w : World) (u : U) (ps : List Rat) (e : Ending) (w' : World) : Prop := ∃ v s A n c t B m d, e = .returned (.tuple #[v, .agg #[.bool s, .slice A n c, .bool t, .slice B m d], .int .i64 (u.pchk ps.length)]) ∧ QCan w' w.heap.size s A n c t B m d (u.bestV ps) ∧ Ext w w' ∧
 (u.pchk ps.length ≠ 0 → v = .slice none 0 0) ∧ (u.pchk ps.length = 0 → ∃ R d', v = .slice R ps.length d' ∧ BoolsAt w' R ps.length (u.path ps u.init))
theorem ret_bestR {v x : Value} {a b : Int} (h : a = b) : Ending.returned (.tuple #[v, x, .int .i64 a]) = .returned (.tuple #[v, x, .int .i64 b]) := by rw [h]
theorem bools_put {x : World} {R : Option Addr} {n : Nat} {b : List Bool} (h : BoolsAt x R n b) {g o : Nat} {v : Value} (hR : ∀ bk of', R = some ⟨bk, of', none⟩ → bk ≠ g) : BoolsAt (x.setCell ⟨g, o, none⟩ v) R n b := by
 refine ⟨h.1, fun hn => ?_⟩
 obtain ⟨bk, of', e, hl, hc⟩ := h.2 hn
 refine ⟨bk, of', e, by simpa [World.setCell] using hl, fun i hi => ?_⟩
 have := hR _ _ e
 rw [World.cell?_setCell_other _ _ _ _ (by intro hh; injection hh; omega)]
 exact hc i hi
set_option maxRecDepth 100000 in
set_option maxHeartbeats 16000000 in
theorem rBest_any (u : U) (A : Option Addr) (n c : Nat) (P : Option Addr) (np cp : Nat) (ps : List Rat) (w : World) (hs : StepsAt w A n u.steps) (hn : n ≤ maxLen) (hp : QsAt w P np ps) (hnp : np ≤ maxLen) (hz6 : ∀ i, i < ps.length → Sz 6 (ps.getD i 0)) :
  Calls Tryz.prog 13 #[u.val A n c, .slice P np cp] w (RetBestR w u ps) := by
 have HS := LH hs
 have HP := LH hp
 have HPL := LH hp.1
 have HZ6 := LH hz6
 clear hs hp hz6
 unfold maxLen at hnp
 go_enter Tryz.func13, Tryz.ntmps13
 go_wp2_with fail
 have k0 := UBox.new (w) (w.heap.size) (by simp) u A n c 24
 have k1 := Cell4.new ((w).alloc (.cells #[.int .i64 u.bus, .int .i64 u.mn, .slice A n c, .int .i64 u.up, .int .i64 u.down, .int .i64 u.start, .int .i64 u.idle, .int .i64 u.spin, .int .i64 u.on] 24)) (w.heap.size + 1) (by simp) (.bool false) (.slice none 0 0) (.bool false) (.slice none 0 0) 29
 have hE : Ext w (((w).alloc (.cells #[.int .i64 u.bus, .int .i64 u.mn, .slice A n c, .int .i64 u.up, .int .i64 u.down, .int .i64 u.start, .int .i64 u.idle, .int .i64 u.spin, .int .i64 u.on] 24)).alloc (.cells #[.bool false, .slice none 0 0, .bool false, .slice none 0 0] 29)) := (Ext.al (Ext.al Ext.rfl' _) _)
 have k0 := k0.ext (show Ext ((w).alloc (.cells #[.int .i64 u.bus, .int .i64 u.mn, .slice A n c, .int .i64 u.up, .int .i64 u.down, .int .i64 u.start, .int .i64 u.idle, .int .i64 u.spin, .int .i64 u.on] 24)) (((w).alloc (.cells #[.int .i64 u.bus, .int .i64 u.mn, .slice A n c, .int .i64 u.up, .int .i64 u.down, .int .i64 u.start, .int .i64 u.idle, .int .i64 u.spin, .int .i64 u.on] 24)).alloc (.cells #[.bool false, .slice none 0 0, .bool false, .slice none 0 0] 29)) from (Ext.al Ext.rfl' _))
 have hsz : (((w).alloc (.cells #[.int .i64 u.bus, .int .i64 u.mn, .slice A n c, .int .i64 u.up, .int .i64 u.down, .int .i64 u.start, .int .i64 u.idle, .int .i64 u.spin, .int .i64 u.on] 24)).alloc (.cells #[.bool false, .slice none 0 0, .bool false, .slice none 0 0] 29)).heap.size = w.heap.size + 1 + 1 := by simp
 generalize ((w).alloc (.cells #[.int .i64 u.bus, .int .i64 u.mn, .slice A n c, .int .i64 u.up, .int .i64 u.down, .int .i64 u.start, .int .i64 u.idle, .int .i64 u.spin, .int .i64 u.on] 24)).alloc (.cells #[.bool false, .slice none 0 0, .bool false, .slice none 0 0] 29) = w1 at *
 have SZw1 := LH hsz
 clear hsz
 have Ew1 := LH hE
 clear hE
 have Ku := LH k0
 clear k0
 have Kr := LH k1
 clear k1
 refine (rwrong_any u A n c P np cp w1 (HS.out.below Ew1.out) hn (by unfold maxLen; exact hnp)).mono ?_
 rintro e w2 ⟨rfl, hE⟩
 have Ew2 := LH hE
 clear hE
 have hpc : u.pchk ps.length = u.pchk np := by rw [HPL.out]
 by_cases h0 : u.pchk np = 0
 rotate_left
 ·have HNZ : Hid (u.pchk ps.length ≠ 0) := by rw [hpc]; exact h0
  obtain ⟨ck, hck⟩ : ∃ v, u.pchk np = v := ⟨_, rfl⟩
  rw [hck] at h0 ⊢
  have hb2 : (ck != 0) = true := by simp [h0]
  have HCK : Hid (ck = u.pchk ps.length) := by rw [hpc, hck]; rfl
  clear h0 hck hpc
  obtain ⟨⟨e0, e1, e2, e3⟩, ⟨f0, f1, f2, f3⟩, el⟩ := (Kr.out.ext Ew2.out)
  go_wp2_with fail
  refine bodyPost_ret (v := .tuple #[.slice none 0 0, .agg #[.bool false, .slice none 0 0, .bool false, .slice none 0 0], .int .i64 ck]) (by simp [results, Tryz.results13, go_sem, e0, e1, e2, e3]) rfl ?_
  have hq : QCan w2 (w.heap.size + 1 + 1) false none 0 0 false none 0 0 (u.bestV ps) := by rw [bestV_bad HNZ.out]; exact qcan_zero _ _
  have hf := retQ_fill (w := w) (r := w.heap.size + 1) (by omega) (by omega) hq (ET Ew1.out Ew2.out) (.bool false) (.slice none 0 0) (.bool false) (.slice none 0 0)
  exact ⟨_, _, _, _, _, _, _, _, _, ret_bestR HCK.out, hf.1, hf.2, fun _ => rfl, fun e => absurd e HNZ.out⟩
 obtain ⟨hok, hnp8⟩ := pchk_zero.1 h0
 rw [h0]
 have HOK := LH hok
 have HC0 : Hid (u.pchk ps.length = 0) := by rw [hpc]; exact h0
 clear h0 hok hpc
 have zu := World.block_lt_of_cell? _ _ (Ku.out.ext Ew2.out).1
 have xu0 := (Ku.out.ext Ew2.out).1
 have xu1 := (Ku.out.ext Ew2.out).2.1
 have xu2 := (Ku.out.ext Ew2.out).2.2.1
 have xu3 := (Ku.out.ext Ew2.out).2.2.2.1
 have xu4 := (Ku.out.ext Ew2.out).2.2.2.2.1
 have xu5 := (Ku.out.ext Ew2.out).2.2.2.2.2.1
 have xu6 := (Ku.out.ext Ew2.out).2.2.2.2.2.2.1
 have xu7 := (Ku.out.ext Ew2.out).2.2.2.2.2.2.2.1
 have xu8 := (Ku.out.ext Ew2.out).2.2.2.2.2.2.2.2
 go_wp2_with fail
 clear zu xu0 xu1 xu2 xu3 xu4 xu5 xu6 xu7 xu8
 refine (rSched_ok u np hnp8 A n c w2 (HS.out.below (ET Ew1.out Ew2.out)) hn HOK.out).mono ?_
 rintro e w3 ⟨AL, cL, rfl, hrw, hE⟩
 have Ew3 := LH hE
 clear hE
 have HRW := LH hrw
 clear hrw
 have HFEW : Hid ((u.exts np u.init).length ≤ 256) := Nat.le_trans (exts_few u np) (Nat.le_trans (Nat.pow_le_pow_right (by omega) hnp8) (by decide))
 have HPOS : Hid (0 < (u.exts np u.init).length) := by have := exts_pos HC0.out; rw [HPL.out] at this; exact this
 have HROW : Hid (∀ i, i < (u.exts np u.init).length → ((u.exts np u.init).getD i []).length = np) := fun i hi => exts_row hi
 have HEND : Hid (∀ b, BInv (fun r => u.profTo ps r np) (u.exts np u.init) (u.exts np u.init).length b → b = u.path ps u.init ∧ u.profTo ps b np = u.bestV ps) := fun b hb => by
  have := best_end HC0.out (b := b) (by rw [HPL.out]; exact hb)
  rw [HPL.out] at this
  exact this
 have HSZ : Hid (∀ r : List Bool, r.length = np → Sz 64300 (u.profTo ps r np)) := fun r hr => (sz_prof6 HOK.out (by rw [hr]; exact hnp8) HZ6.out np (by rw [HPL.out]; exact Nat.le_refl _)).mono (by omega)
 obtain ⟨gL, oL, rfl, hgL, hcL⟩ := HRW.out.2 HPOS.out
 have HCL := LH hcL
 clear hcL
 generalize u.exts np u.init = L at *
 have hfew := HFEW.out
 have hpos := HPOS.out
 obtain ⟨N, hN⟩ : ∃ N, L.length = N := ⟨_, rfl⟩
 rw [hN] at HRW HEND HCL HROW hfew hpos ⊢
 have HN := LH hN
 clear hN HFEW HPOS
 obtain ⟨R0, m0, d0, h00, hB0, hm0, hfr0⟩ := HCL.out 0 hpos
 have HF0 := LH hfr0
 clear hfr0
 have H00 := LH h00
 have HB0 := LH hB0
 obtain rfl : np = m0 := by rw [← hB0.1]; exact (HROW.out 0 hpos).symm
 clear h00 hB0 hm0
 go_wp2_with fail
 refine wp_region_havS [9] [0, 1, 2, 3, 4, 5, 6, 7, 8] [10, 11] (fun _ => .cells #[.bool false, .slice none 0 0, .bool false, .slice none 0 0] 29) (by kernel_rfl) (by kernel_rfl) ?_ ?_
 ·intro f hf
  simp only [List.mem_cons, List.not_mem_nil, or_false] at hf
  rcases hf with rfl
  all_goals exact makes_q (by rfl) rfl
 have hE : Ext w3 w3.drew := Ext.rfl'.drew
 generalize w3.drew = w4 at *
 have Ew4 := LH hE
 clear hE
 have fu0 := fun z : ExtX w4 [] => z.cell (p := ⟨w.heap.size, 0, none⟩) (Ku.out.ext (ET Ew2.out (ET Ew3.out Ew4.out))).1 (by simp)
 have fu1 := fun z : ExtX w4 [] => z.cell (p := ⟨w.heap.size, 1, none⟩) (Ku.out.ext (ET Ew2.out (ET Ew3.out Ew4.out))).2.1 (by simp)
 have fu2 := fun z : ExtX w4 [] => z.cell (p := ⟨w.heap.size, 2, none⟩) (Ku.out.ext (ET Ew2.out (ET Ew3.out Ew4.out))).2.2.1 (by simp)
 have fu3 := fun z : ExtX w4 [] => z.cell (p := ⟨w.heap.size, 3, none⟩) (Ku.out.ext (ET Ew2.out (ET Ew3.out Ew4.out))).2.2.2.1 (by simp)
 have fu4 := fun z : ExtX w4 [] => z.cell (p := ⟨w.heap.size, 4, none⟩) (Ku.out.ext (ET Ew2.out (ET Ew3.out Ew4.out))).2.2.2.2.1 (by simp)
 have fu5 := fun z : ExtX w4 [] => z.cell (p := ⟨w.heap.size, 5, none⟩) (Ku.out.ext (ET Ew2.out (ET Ew3.out Ew4.out))).2.2.2.2.2.1 (by simp)
 have fu6 := fun z : ExtX w4 [] => z.cell (p := ⟨w.heap.size, 6, none⟩) (Ku.out.ext (ET Ew2.out (ET Ew3.out Ew4.out))).2.2.2.2.2.2.1 (by simp)
 have fu7 := fun z : ExtX w4 [] => z.cell (p := ⟨w.heap.size, 7, none⟩) (Ku.out.ext (ET Ew2.out (ET Ew3.out Ew4.out))).2.2.2.2.2.2.2.1 (by simp)
 have fu8 := fun z : ExtX w4 [] => z.cell (p := ⟨w.heap.size, 8, none⟩) (Ku.out.ext (ET Ew2.out (ET Ew3.out Ew4.out))).2.2.2.2.2.2.2.2 (by simp)
 have fL0 := fun z : ExtX w4 [] => z.cell (p := ⟨gL, oL, none⟩) (Ext.cellOf Ew4.out H00.out) (by simp)
 intro w5 hE
 have Ew5 := LH hE
 clear hE
 repeat (refine havAt_still (by rfl) (by rfl) ?_; go_big_quiet_step (fail); refine wpQuiet_nil ?_)
 refine havAt_move (by rfl) (by rfl) (by kernel_rfl) ?_
 go_wp2_with fail
 refine (rprofit_any u A n c P np cp ps R0 d0 (L.getD 0 []) w5 (HS.out.below (ET Ew1.out (ET Ew2.out (ET Ew3.out (ET Ew4.out Ew5.out))))) hn (HP.out.ext (ET Ew1.out (ET Ew2.out (ET Ew3.out (ET Ew4.out Ew5.out))))) (HB0.out.below (ET Ew4.out Ew5.out)) hnp8 HOK.out HZ6.out).mono ?_
 rintro e w6 ⟨sb, Ab, nb, cb, tb, Bb, mb, db, rfl, hQ, hE⟩
 have Ew6 := LH hE
 clear hE
 have Qb := LH hQ
 clear hQ
 go_wp2_with fail
 refine And.intro Ew6.out (fun w7 hE => ?_)
 have Ew7 := LH hE
 clear hE
 repeat (refine havAt_still (by rfl) (by rfl) ?_; go_big_quiet_step (fail); refine wpQuiet_nil ?_)
 refine havAt_end ?_
 intro gs hgs hne
 have hpb := hgs 9 (by simp)
 change IdxAt _ _ _ _ _ _ (Act.put _ (some 11) (.pointer (some ⟨gs 9, 0, none⟩))) _
 generalize gs 9 = gb at *
 clear hgs hne
 simp only [Act.put, List.setIfInBounds_toArray, List.set_cons_succ, List.set_cons_zero]
 have Pb := LH hpb
 have Kb := LH (Cell4.of_blk hpb.2.1)
 clear hpb
 repeat (refine idxAt_still (by rfl) (by rfl) ?_; go_big_quiet_step (fail); refine wpQuiet_nil ?_)
 obtain ⟨⟨o0, o1, o2, o3⟩, ⟨q0, q1, q2, q3⟩, ol⟩ := Kb.out
 refine idxAt_move (by rfl) (by rfl) (by kernel_rfl) ?_
 go_wp2_with fail
 refine And.intro (inX_put (p := ⟨gb, 3, none⟩) (inX_put (p := ⟨gb, 2, none⟩) (inX_put (p := ⟨gb, 1, none⟩) (inX_put (p := ⟨gb, 0, none⟩) (inX_of_ext _ (ET Ew5.out (ET Ew6.out Ew7.out))) (.inr Pb.out.1) _) (.inr Pb.out.1) _) (.inr Pb.out.1) _) (.inr Pb.out.1) _) ?_
 clear o0 o1 o2 o3 q0 q1 q2 q3 ol
 have Kb_1 := LH (Kb.out.put4 (.bool sb) (.slice Ab nb cb) (.bool tb) (.slice Bb mb db))
 have NJ1 := LH (ext_put4 (ET Ew5.out (ET Ew6.out Ew7.out)) (g := gb) Pb.out.1 0 (.bool sb) (.slice Ab nb cb) (.bool tb) (.slice Bb mb db))
 have NZ1 : Hid (w7.heap.size ≤ (put4 w7 (gb) 0 (.bool sb) (.slice Ab nb cb) (.bool tb) (.slice Bb mb db)).heap.size) := by unfold Hid; rw [put4_size]; exact Nat.le_refl _
 have Qb_1 := LH ((Qb.out.ext Ew7.out).put4A (g := gb) (Qb.out.span (Pb.out.2.2 (w5.heap.size, w6.heap.size) (by simp))) 0 (.bool sb) (.slice Ab nb cb) (.bool tb) (.slice Bb mb db))
 unfold put4 at Kb_1 NJ1 NZ1 Qb_1
 simp only [Nat.zero_add] at Kb_1 NJ1 NZ1 Qb_1
 generalize ((((w7.setCell ⟨gb, 0, none⟩ (.bool sb)).setCell ⟨gb, 1, none⟩ (.slice Ab nb cb)).setCell ⟨gb, 2, none⟩ (.bool tb)).setCell ⟨gb, 3, none⟩ (.slice Bb mb db)) = w8 at *
 repeat (refine idxAt_still (by rfl) (by rfl) ?_; go_big_quiet_step (fail); refine wpQuiet_nil ?_)
 refine idxAt_nil ?_
 clear fu0 fu1 fu2 fu3 fu4 fu5 fu6 fu7 fu8 fL0
 go_wp2_with fail
 have hgB : gb < w8.heap.size := Kb_1.out.2.2
 have HBA : Hid (Away gb (gb + 1) Ab nb ∧ Away gb (gb + 1) Bb mb) := (Qb.out.span (Pb.out.2.2 (w5.heap.size, w6.heap.size) (by simp)))
 have hgl : w4.heap.size ≤ gb := Pb.out.1
 have hbe : w5.heap.size ≤ w8.heap.size := (Nat.le_trans Ew6.out.size (Nat.le_trans Ew7.out.size NZ1.out))
 have HV0 : Hid (BInv (fun r => u.profTo ps r np) L 1 (L.getD 0 [])) := binv_start _ (by rw [HN.out]; exact hpos)
 go_loopw [10, 12] (fun vb i wr => ∃ (k : Nat) (b : List Bool) (R : Option Addr) (dR : Nat) (s : Bool) (A : Option Addr) (n' c : Nat) (t : Bool) (B : Option Addr) (m d : Nat), k ≤ N ∧ i = .int .i64 k ∧ vb = .slice R np dR ∧ Hid (BInv (fun r => u.profTo ps r np) L k b ∧ b.length = np) ∧ Hid (Ext w4 wr ∧ w8.heap.size ≤ wr.heap.size ∧ BoolsAt wr R np b ∧ FreshB w2.heap.size R ∧ Cell4 wr gb (.bool s) (.slice A n' c) (.bool t) (.slice B m d) ∧ QCan wr w5.heap.size s A n' c t B m d (u.profTo ps b np) ∧ Away gb (gb + 1) A n' ∧ Away gb (gb + 1) B m)) (fun _ i _ => N - (intOf i).toNat)
 case atStart => exact ⟨1, _, _, _, _, _, _, _, _, _, _, _, by omega, rfl, rfl, ⟨HV0.out, HROW.out 0 hpos⟩, NJ1.out, Nat.le_refl _, (HB0.out.below (ET Ew4.out NJ1.out)), HF0.out, Kb_1.out, Qb_1.out, HBA.out.1, HBA.out.2⟩
 case round =>
  obtain ⟨k, b, R, dR, sb, Ab, nb, cb, tb, Bb, mb, db, hk, rfl, rfl, HV, HI⟩ := hrel
  have HEL := LH HI.out.1
  have hsr := HI.out.2.1
  have HRB := LH HI.out.2.2.1
  have HFB := LH HI.out.2.2.2.1
  have Kb := LH HI.out.2.2.2.2.1
  have Qb := LH HI.out.2.2.2.2.2.1
  have HBA := LH HI.out.2.2.2.2.2.2
  clear HI
  by_cases hlt : k < N
  rotate_left
  ·have hbv : decide ((k : Int) < (N : Int)) = false := by simp; omega
   have hbv2 : decide (k < N) = false := by simp; omega
   obtain rfl : k = N := by omega
   have HF := LH (HEND.out b HV.out.1)
   obtain ⟨⟨xb0, xb1, xb2, xb3⟩, -, zb⟩ := Kb.out
   obtain ⟨⟨xr0, xr1, xr2, xr3⟩, ⟨yr0, yr1, yr2, yr3⟩, zr⟩ := (Kr.out.ext (ET Ew2.out (ET Ew3.out (ET Ew4.out HEL.out))))
   go_wp2_with fail
   go_region
   go_wp2_with fail
   have hdr : Ext wr wr.drew := Ext.rfl'.drew
   have hqz : QCan wr.drew w5.heap.size sb Ab nb cb tb Bb mb db (u.bestV ps) := by
    rw [← HF.out.2]
    exact Qb.out.ext hdr
   refine bodyPost_ret (v := .tuple #[.slice R np dR, .agg #[.bool sb, .slice Ab nb cb, .bool tb, .slice Bb mb db], .int .i64 0]) (by simp [results, Tryz.results13, go_sem, xr0, xr1, xr2, xr3]) rfl ?_
   have hf := retQ_fill (w := w) (r := w.heap.size + 1) (by omega) (Nat.lt_of_lt_of_le Kr.out.2.2 (Nat.le_trans Ew2.out.size (Nat.le_trans Ew3.out.size (Nat.le_trans Ew4.out.size Ew5.out.size)))) hqz (ET (ET Ew1.out (ET Ew2.out (ET Ew3.out (ET Ew4.out HEL.out)))) hdr) (.bool sb) (.slice Ab nb cb) (.bool tb) (.slice Bb mb db)
   refine ⟨_, _, _, _, _, _, _, _, _, ret_bestR HC0.out.symm, hf.1, hf.2, fun e => absurd HC0.out e, fun _ => ⟨R, dR, by rw [HPL.out], ?_⟩⟩
   have hbb := HRB.out.below hdr
   rw [HPL.out, ← HF.out.1]
   have hlr : w.heap.size + 1 < w2.heap.size := Nat.lt_of_lt_of_le Kr.out.2.2 Ew2.out.size
   have hR : ∀ bk of', R = some ⟨bk, of', none⟩ → bk ≠ w.heap.size + 1 := fun bk of' e => by have := HFB.out _ e; simp only at this; omega
   exact bools_put (bools_put (bools_put (bools_put hbb hR) hR) hR) hR
  ·have hbv : decide ((k : Int) < (N : Int)) = true := by simp; omega
   have hbv2 : decide (k < N) = true := by simp; omega
   obtain ⟨R1, m1, d1, h10, hB1, hm1, hfr1⟩ := HCL.out k hlt
   have HF1 := LH hfr1
   clear hfr1
   have H10 := LH h10
   have HB1 := LH hB1
   obtain rfl : np = m1 := by rw [← hB1.1]; exact (HROW.out k hlt).symm
   have HRK := LH (HROW.out k hlt)
   have HUP := LH (fun h => binv_up HV.out.1 (by rw [HN.out]; exact hlt) h)
   have HKEEP := LH (fun h => binv_keep HV.out.1 h)
   clear h10 hB1 hm1
   obtain ⟨b1, hb1⟩ : ∃ v, L.getD k [] = v := ⟨_, rfl⟩
   rw [hb1] at HB1 HUP HKEEP HRK
   clear hb1
   have hz0 : (0 : Int) ≤ (k : Int) := by omega
   have hzn : (k : Int) < (N : Int) := by omega
   go_wp2_with fail
   refine wp_region_havS [7] [0, 1, 2, 3, 4, 5, 6] [8] (fun _ => .cells #[.bool false, .slice none 0 0, .bool false, .slice none 0 0] 29) (by kernel_rfl) (by kernel_rfl) ?_ ?_
   ·intro f hf
    simp only [List.mem_cons, List.not_mem_nil, or_false] at hf
    rcases hf with rfl
    all_goals exact makes_q (by rfl) rfl
   have hE : Ext wr wr.drew := Ext.rfl'.drew
   generalize wr.drew = w9 at *
   have Ew9 := LH hE
   clear hE
   have fu0 := fun z : ExtX w9 [] => z.cell (p := ⟨w.heap.size, 0, none⟩) (Ku.out.ext (ET Ew2.out (ET Ew3.out (ET Ew4.out (ET HEL.out Ew9.out))))).1 (by simp)
   have fu1 := fun z : ExtX w9 [] => z.cell (p := ⟨w.heap.size, 1, none⟩) (Ku.out.ext (ET Ew2.out (ET Ew3.out (ET Ew4.out (ET HEL.out Ew9.out))))).2.1 (by simp)
   have fu2 := fun z : ExtX w9 [] => z.cell (p := ⟨w.heap.size, 2, none⟩) (Ku.out.ext (ET Ew2.out (ET Ew3.out (ET Ew4.out (ET HEL.out Ew9.out))))).2.2.1 (by simp)
   have fu3 := fun z : ExtX w9 [] => z.cell (p := ⟨w.heap.size, 3, none⟩) (Ku.out.ext (ET Ew2.out (ET Ew3.out (ET Ew4.out (ET HEL.out Ew9.out))))).2.2.2.1 (by simp)
   have fu4 := fun z : ExtX w9 [] => z.cell (p := ⟨w.heap.size, 4, none⟩) (Ku.out.ext (ET Ew2.out (ET Ew3.out (ET Ew4.out (ET HEL.out Ew9.out))))).2.2.2.2.1 (by simp)
   have fu5 := fun z : ExtX w9 [] => z.cell (p := ⟨w.heap.size, 5, none⟩) (Ku.out.ext (ET Ew2.out (ET Ew3.out (ET Ew4.out (ET HEL.out Ew9.out))))).2.2.2.2.2.1 (by simp)
   have fu6 := fun z : ExtX w9 [] => z.cell (p := ⟨w.heap.size, 6, none⟩) (Ku.out.ext (ET Ew2.out (ET Ew3.out (ET Ew4.out (ET HEL.out Ew9.out))))).2.2.2.2.2.2.1 (by simp)
   have fu7 := fun z : ExtX w9 [] => z.cell (p := ⟨w.heap.size, 7, none⟩) (Ku.out.ext (ET Ew2.out (ET Ew3.out (ET Ew4.out (ET HEL.out Ew9.out))))).2.2.2.2.2.2.2.1 (by simp)
   have fu8 := fun z : ExtX w9 [] => z.cell (p := ⟨w.heap.size, 8, none⟩) (Ku.out.ext (ET Ew2.out (ET Ew3.out (ET Ew4.out (ET HEL.out Ew9.out))))).2.2.2.2.2.2.2.2 (by simp)
   have fLk := fun z : ExtX w9 [] => z.cell (p := ⟨gL, oL + k, none⟩) (Ext.cellOf (ET Ew4.out (ET HEL.out Ew9.out)) H10.out) (by simp)
   intro w10 hE
   have Ew10 := LH hE
   clear hE
   repeat (refine havAt_still (by rfl) (by rfl) ?_; go_big_quiet_step (fail); refine wpQuiet_nil ?_)
   refine havAt_move (by rfl) (by rfl) (by kernel_rfl) ?_
   go_wp2_with fail
   refine (rprofit_any u A n c P np cp ps R1 d1 b1 w10 (HS.out.below (ET Ew1.out (ET Ew2.out (ET Ew3.out (ET Ew4.out (ET HEL.out (ET Ew9.out Ew10.out))))))) hn (HP.out.ext (ET Ew1.out (ET Ew2.out (ET Ew3.out (ET Ew4.out (ET HEL.out (ET Ew9.out Ew10.out))))))) (HB1.out.below (ET Ew4.out (ET HEL.out (ET Ew9.out Ew10.out)))) hnp8 HOK.out HZ6.out).mono ?_
   rintro e w11 ⟨sx, Ax, nx, cx, tx, Bx, mx, dx, rfl, hQ, hE⟩
   have Ew11 := LH hE
   clear hE
   have Qx := LH hQ
   clear hQ
   go_wp2_with fail
   refine And.intro Ew11.out (fun w12 hE => ?_)
   have Ew12 := LH hE
   clear hE
   repeat (refine havAt_still (by rfl) (by rfl) ?_; go_big_quiet_step (fail); refine wpQuiet_nil ?_)
   refine havAt_end ?_
   intro gs hgs hne
   have hpx := hgs 7 (by simp)
   change IdxAt _ _ _ _ _ _ (Act.put _ (some 13) (.pointer (some ⟨gs 7, 0, none⟩))) _
   generalize gs 7 = gx at *
   clear hgs hne
   simp only [Act.put, List.setIfInBounds_toArray, List.set_cons_succ, List.set_cons_zero]
   have Px := LH hpx
   have Kx := LH (Cell4.of_blk hpx.2.1)
   clear hpx
   repeat (refine idxAt_still (by rfl) (by rfl) ?_; go_big_quiet_step (fail); refine wpQuiet_nil ?_)
   obtain ⟨⟨o0, o1, o2, o3⟩, ⟨q0, q1, q2, q3⟩, ol⟩ := Kx.out
   refine idxAt_move (by rfl) (by rfl) (by kernel_rfl) ?_
   go_wp2_with fail
   refine And.intro (inX_put (p := ⟨gx, 3, none⟩) (inX_put (p := ⟨gx, 2, none⟩) (inX_put (p := ⟨gx, 1, none⟩) (inX_put (p := ⟨gx, 0, none⟩) (inX_of_ext _ (ET Ew10.out (ET Ew11.out Ew12.out))) (.inr Px.out.1) _) (.inr Px.out.1) _) (.inr Px.out.1) _) (.inr Px.out.1) _) ?_
   clear o0 o1 o2 o3 q0 q1 q2 q3 ol
   have Kx_2 := LH (Kx.out.put4 (.bool sx) (.slice Ax nx cx) (.bool tx) (.slice Bx mx dx))
   have NJ2 := LH (ext_put4 (ET Ew10.out (ET Ew11.out Ew12.out)) (g := gx) Px.out.1 0 (.bool sx) (.slice Ax nx cx) (.bool tx) (.slice Bx mx dx))
   have NZ2 : Hid (w12.heap.size ≤ (put4 w12 (gx) 0 (.bool sx) (.slice Ax nx cx) (.bool tx) (.slice Bx mx dx)).heap.size) := by unfold Hid; rw [put4_size]; exact Nat.le_refl _
   have Qx_2 := LH ((Qx.out.ext Ew12.out).put4A (g := gx) (Qx.out.span (Px.out.2.2 (w10.heap.size, w11.heap.size) (by simp))) 0 (.bool sx) (.slice Ax nx cx) (.bool tx) (.slice Bx mx dx))
   unfold put4 at Kx_2 NJ2 NZ2 Qx_2
   simp only [Nat.zero_add] at Kx_2 NJ2 NZ2 Qx_2
   generalize ((((w12.setCell ⟨gx, 0, none⟩ (.bool sx)).setCell ⟨gx, 1, none⟩ (.slice Ax nx cx)).setCell ⟨gx, 2, none⟩ (.bool tx)).setCell ⟨gx, 3, none⟩ (.slice Bx mx dx)) = w13 at *
   repeat (refine idxAt_still (by rfl) (by rfl) ?_; go_big_quiet_step (fail); refine wpQuiet_nil ?_)
   refine idxAt_nil ?_
   clear fu0 fu1 fu2 fu3 fu4 fu5 fu6 fu7 fu8 fLk
   obtain ⟨⟨xx0, xx1, xx2, xx3⟩, -, zx⟩ := Kx_2.out
   obtain ⟨⟨xb0, xb1, xb2, xb3⟩, -, zb⟩ := (Kb.out.ext (ET Ew9.out NJ2.out))
   go_wp2_with fail
   clear xx0 xx1 xx2 xx3 zx xb0 xb1 xb2 xb3 zb
   refine (rqcmp_any sx Ax nx cx tx Bx mx dx _ sb Ab nb cb tb Bb mb db _ 66000 w13 (Qx_2.out.rarg (HSZ.out _ HRK.out) (by omega)) ((Qb.out.ext (ET Ew9.out NJ2.out)).rarg (HSZ.out _ HV.out.2) (by omega)) (by omega)).mono ?_
   rintro e w14 ⟨rfl, hE⟩
   have Ew14 := LH hE
   clear hE
   obtain ⟨cm, hcm⟩ : ∃ x, cmpQ (u.profTo ps b1 np) (u.profTo ps b np) = x := ⟨_, rfl⟩
   rw [hcm]
   have Hcm := LH hcm
   clear hcm
   have HPP := LH (cmpQ_pos (u.profTo ps b1 np) (u.profTo ps b np))
   rw [Hcm.out] at HPP
   by_cases hgt : u.profTo ps b np < u.profTo ps b1 np
   ·have hb4 : decide (0 < cm) = true := decide_eq_true (HPP.out.2 hgt)
    have HVN := LH (HUP.out hgt)
    clear HUP HKEEP hgt HPP
    go_wp2_with fail
    refine wp_region_lexS (C := InX w14.drew []) (by kernel_rfl) (by kernel_rfl) (inX_self _ _) ?_
    have hE : Ext w14 w14.drew := Ext.rfl'.drew
    generalize w14.drew = w15 at *
    have Ew15 := LH hE
    clear hE
    have fx0 := fun z : ExtX w15 [] => z.cell (p := ⟨gx, 0, none⟩) (Kx_2.out.ext (ET Ew14.out Ew15.out)).1.1 (by simp)
    have fx1 := fun z : ExtX w15 [] => z.cell (p := ⟨gx, 1, none⟩) (Kx_2.out.ext (ET Ew14.out Ew15.out)).1.2.1 (by simp)
    have fx2 := fun z : ExtX w15 [] => z.cell (p := ⟨gx, 2, none⟩) (Kx_2.out.ext (ET Ew14.out Ew15.out)).1.2.2.1 (by simp)
    have fx3 := fun z : ExtX w15 [] => z.cell (p := ⟨gx, 3, none⟩) (Kx_2.out.ext (ET Ew14.out Ew15.out)).1.2.2.2 (by simp)
    have fLk := fun z : ExtX w15 [] => z.cell (p := ⟨gL, oL + k, none⟩) (Ext.cellOf (ET Ew4.out (ET HEL.out (ET Ew9.out (ET NJ2.out (ET Ew14.out Ew15.out))))) H10.out) (by simp)
    repeat (refine lexAt_still (by rfl) ?_; go_big_quiet_step (fail); refine wpQuiet_nil ?_)
    have HXe := LH (inX_of_ext [] (Ext.rfl' (w := w15)))
    clear fx0 fx1 fx2 fx3 fLk
    obtain ⟨⟨o0, o1, o2, o3⟩, ⟨q0, q1, q2, q3⟩, ol⟩ := (Kb.out.ext (ET Ew9.out (ET NJ2.out (ET Ew14.out Ew15.out))))
    refine lexAt_last (by rfl) (by kernel_rfl) (by kernel_rfl) ?_
    go_wp2_with fail
    refine And.intro trivial (lexAt_nil ?_)
    clear o0 o1 o2 o3 q0 q1 q2 q3 ol HXe
    have Kb_3 := LH ((Kb.out.ext (ET Ew9.out (ET NJ2.out (ET Ew14.out Ew15.out)))).put4 (.bool sx) (.slice Ax nx cx) (.bool tx) (.slice Bx mx dx))
    have NJ3 := LH (ext_put4 (ET HEL.out (ET Ew9.out (ET NJ2.out (ET Ew14.out Ew15.out)))) (g := gb) hgl 0 (.bool sx) (.slice Ax nx cx) (.bool tx) (.slice Bx mx dx))
    have NZ3 : Hid (w15.heap.size ≤ (put4 w15 (gb) 0 (.bool sx) (.slice Ax nx cx) (.bool tx) (.slice Bx mx dx)).heap.size) := by unfold Hid; rw [put4_size]; exact Nat.le_refl _
    have Qx_3 := LH ((Qx_2.out.ext (ET Ew14.out Ew15.out)).put4A (g := gb) (Qx.out.span (.inl (Nat.lt_of_lt_of_le Kb.out.2.2 (Nat.le_trans Ew9.out.size Ew10.out.size)))) 0 (.bool sx) (.slice Ax nx cx) (.bool tx) (.slice Bx mx dx))
    unfold put4 at Kb_3 NJ3 NZ3 Qx_3
    simp only [Nat.zero_add] at Kb_3 NJ3 NZ3 Qx_3
    generalize ((((w15.setCell ⟨gb, 0, none⟩ (.bool sx)).setCell ⟨gb, 1, none⟩ (.slice Ax nx cx)).setCell ⟨gb, 2, none⟩ (.bool tx)).setCell ⟨gb, 3, none⟩ (.slice Bx mx dx)) = w16 at *
    have HAV : Hid (Away gb (gb + 1) Ax nx ∧ Away gb (gb + 1) Bx mx) := (Qx.out.span (.inl (Nat.lt_of_lt_of_le Kb.out.2.2 (Nat.le_trans Ew9.out.size Ew10.out.size))))
    have HQV := LH (Qx_3.out.base (Nat.le_trans hbe (Nat.le_trans hsr (Nat.le_trans Ew9.out.size Ew10.out.size))))
    have HSR : Hid (w8.heap.size ≤ w16.heap.size) := Nat.le_trans hsr (Nat.le_trans Ew9.out.size (Nat.le_trans Ew10.out.size (Nat.le_trans Ew11.out.size (Nat.le_trans Ew12.out.size (Nat.le_trans NZ2.out (Nat.le_trans Ew14.out.size (Nat.le_trans Ew15.out.size NZ3.out)))))))
    have HRN := LH (HB1.out.below (ET Ew4.out NJ3.out))
    go_wp2_with fail
    go_roundw
    case rel => exact ⟨k + 1, b1, _, _, _, _, _, _, _, _, _, _, by omega, by go_num, rfl, ⟨HVN.out, HRK.out⟩, NJ3.out, HSR.out, HRN.out, HF1.out, Kb_3.out, HQV.out, HAV.out.1, HAV.out.2⟩
    case measure => simp [intOf]; omega
   ·have hb4 : decide (0 < cm) = false := decide_eq_false (fun e => hgt (HPP.out.1 e))
    have HVN := LH (HKEEP.out hgt)
    clear HUP HKEEP hgt HPP
    go_wp2_with fail
    have HSR : Hid (w8.heap.size ≤ w14.heap.size) := Nat.le_trans hsr (Nat.le_trans Ew9.out.size (Nat.le_trans Ew10.out.size (Nat.le_trans Ew11.out.size (Nat.le_trans Ew12.out.size (Nat.le_trans NZ2.out Ew14.out.size)))))
    have HRN := LH (HRB.out.below (ET Ew9.out (ET NJ2.out Ew14.out)))
    go_roundw
    case rel => exact ⟨k + 1, b, _, _, _, _, _, _, _, _, _, _, by omega, by go_num, rfl, ⟨HVN.out, HV.out.2⟩, (ET HEL.out (ET Ew9.out (ET NJ2.out Ew14.out))), HSR.out, HRN.out, HFB.out, (Kb.out.ext (ET Ew9.out (ET NJ2.out Ew14.out))), (Qb.out.ext (ET Ew9.out (ET NJ2.out Ew14.out))), HBA.out.1, HBA.out.2⟩
    case measure => simp [intOf]; omega
end Go.Proofs.YtjinpfnefeiooaaGreat
