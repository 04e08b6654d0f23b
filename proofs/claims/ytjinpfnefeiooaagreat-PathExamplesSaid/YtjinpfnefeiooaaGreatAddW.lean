/- A part of the proof. -/
import Derived.Test.YtjinpfnefeiooaaGreatClonX
namespace Go.Proofs.YtjinpfnefeiooaaGreat
open Go.RowKit Go.Shelf
attribute [local go_sem] Oper.semAt_some

set_option maxHeartbeats 400000 in
theorem pairs_any (A : Option Addr) (n c : Nat) (B : Option Addr) (m d : Nat) (w : World) :
  Calls Tryz.prog 142 #[.slice A n c, .slice B m d] w fun e w' => e = .returned (.func (.func 149) #[] #[.pointer (some ⟨w.heap.size, 0, none⟩), .pointer (some ⟨w.heap.size + 1, 0, none⟩)]) ∧
   w' = (w.alloc (.cells #[.slice A n c] 25)).alloc (.cells #[.slice B m d] 25) := by
 go_enter Tryz.func142, Tryz.ntmps142
 go_wp2_with fail
 go_ret
 exact ⟨rfl, rfl⟩
theorem pairs_stops (A : Option Addr) (n c : Nat) (xs : List Nat) (B : Option Addr) (m d : Nat) (ys : List Nat) (p q n0 : Nat) (hn : n ≤ 1073741824) (hm : m ≤ 1073741824)
  (hA : 0 < n → ∀ b off, A = some ⟨b, off, none⟩ → b < n0) (hB : 0 < m → ∀ b off, B = some ⟨b, off, none⟩ → b < n0) (w : World) (hx : Words xs) (hy : Words ys)
  (hp : w.heap[p]? = some (.cells #[.slice A n c] 25 (0, 0))) (hq : w.heap[q]? = some (.cells #[.slice B m d] 25 (0, 0))) (hwx : WordsAt w A n xs) (hwy : WordsAt w B m ys) :
  SeqStopsK Fence.wide 2 Tryz.prog 149 #[.pointer (some ⟨p, 0, none⟩), .pointer (some ⟨q, 0, none⟩)] encP (Kp n0 p q) (fun zs => zs = pairsTo hx hy (max n m)) (fun _ => True) (max n m) w := fun l J Jx W hW _ _ hY h0 => by
 have hp' := (hW.block p (Blk'lt hp)).trans hp
 have hq' := (hW.block q (Blk'lt hq)).trans hq
 by_cases hnm : n < m
 ·have e : max n m = m := by omega
  rw [e] at hY ⊢
  exact pairs1_m l A n c xs B m d ys p q n0 hx hy hn hm hnm hA hB J Jx hY W hp' hq' (hwx.below hW) (hwy.below hW) h0
 ·have e : max n m = n := by omega
  rw [e] at hY ⊢
  exact pairs1_n l A n c xs B m d ys p q n0 hx hy hn hm (by omega) hA hB J Jx hY W hp' hq' (hwx.below hW) (hwy.below hW) h0
def zeros32 (k : Nat) : Array Value := madeCells #[.int .u32 0] k
theorem make_words (k : Nat) (hk : k ≤ 4294967296) (z : Int) (hz : z = k) (w : World) : (Instr.makeSlice 25 (.int .i64 0) (.int .i64 z)).run Tryz.prog w = .ok (.slice (some ⟨w.heap.size, 0, none⟩) 0 k) (w.alloc (.cells (zeros32 k) 44)) := by
 subst hz
 obtain ⟨i0, hi, hz0, hz1, hz2⟩ := info_parts info_u32
 have hr := run_make (P := Tryz.prog) w 25 44 i0 _ Tryz.underlying25 hi hz0 .i64 .i64 0 k (by omega) (by omega) (by rw [hz2]; omega) (by omega)
 simp only [Int.toNat_natCast, hz1, Nat.mul_one] at hr
 exact hr
def addW0 (w : World) (k c0 : Nat) (A : Option Addr) (n c : Nat) (B : Option Addr) (m d : Nat) : World :=
 (((((w.alloc (.cells (zeros32 k) 44)).alloc (.cells #[.slice (some ⟨w.heap.size, 0, none⟩) 0 k] 25)).alloc (.cells #[.int .u64 (c0 : Int)] 97)).alloc
  (.cells #[.func (.func 144) #[] #[.pointer (some ⟨w.heap.size + 1 + 1, 0, none⟩)]] 141)).alloc (.cells #[.slice A n c] 25)).alloc (.cells #[.slice B m d] 25)
structure AddW0 (w W : World) (k c0 : Nat) (A : Option Addr) (n c : Nat) (B : Option Addr) (m d : Nat) : Prop where
 st : AddSt w W w.heap.size k [] c0
 hp : W.heap[w.heap.size + 4]? = some (.cells #[.slice A n c] 25 (0, 0))
 hq : W.heap[w.heap.size + 5]? = some (.cells #[.slice B m d] 25 (0, 0))
 size : W.heap.size = w.heap.size + 6
 ext : Ext w W
theorem addW0_is (w : World) (k c0 : Nat) (hk : k ≤ 4294967296) (A : Option Addr) (n c : Nat) (B : Option Addr) (m d : Nat) : AddW0 w (addW0 w k c0 A n c B m d) k c0 A n c B m d := by
 have hE : Ext w (addW0 w k c0 A n c B m d) := Ext.al (Ext.al (Ext.al (Ext.al (Ext.al (Ext.al Ext.rfl' _) _) _) _) _) _
 refine ⟨⟨?_, ?_, ?_, ?_, hE⟩, ?_, ?_, by simp [addW0], hE⟩
 ·have h0 : (w.alloc (.cells (zeros32 k) 44)).ownsRow w.heap.size 44 1 (.slice (some ⟨w.heap.size, 0, none⟩) 0 k) 0 [] := World.ownsRow_made w _ k (Nat.le_refl _) (by simp [maxLen]; omega) (by simp [zeros32, size_madeCells])
  exact ((((h0.alloc _).alloc _).alloc _).alloc _).alloc _
 ·have := Boxed.new (w.alloc (.cells (zeros32 k) 44)) 25 (.slice (some ⟨w.heap.size, 0, none⟩) 0 k)
  rw [World.size_alloc] at this
  exact (((this.alloc _).alloc _).alloc _).alloc _
 ·have := Boxed.new ((w.alloc (.cells (zeros32 k) 44)).alloc (.cells #[.slice (some ⟨w.heap.size, 0, none⟩) 0 k] 25)) 97 (.int .u64 (c0 : Int))
  rw [World.size_alloc, World.size_alloc] at this
  exact ((this.alloc _).alloc _).alloc _
 ·have := Boxed.new (((w.alloc (.cells (zeros32 k) 44)).alloc (.cells #[.slice (some ⟨w.heap.size, 0, none⟩) 0 k] 25)).alloc (.cells #[.int .u64 (c0 : Int)] 97)) 141 (.func (.func 144) #[] #[.pointer (some ⟨w.heap.size + 1 + 1, 0, none⟩)])
  rw [World.size_alloc, World.size_alloc, World.size_alloc] at this
  exact (this.alloc _).alloc _
 ·have := Boxed.new ((((w.alloc (.cells (zeros32 k) 44)).alloc (.cells #[.slice (some ⟨w.heap.size, 0, none⟩) 0 k] 25)).alloc (.cells #[.int .u64 (c0 : Int)] 97)).alloc
   (.cells #[.func (.func 144) #[] #[.pointer (some ⟨w.heap.size + 1 + 1, 0, none⟩)]] 141)) 25 (.slice A n c)
  rw [World.size_alloc, World.size_alloc, World.size_alloc, World.size_alloc] at this
  exact this.alloc _
 ·have := Boxed.new (((((w.alloc (.cells (zeros32 k) 44)).alloc (.cells #[.slice (some ⟨w.heap.size, 0, none⟩) 0 k] 25)).alloc (.cells #[.int .u64 (c0 : Int)] 97)).alloc
   (.cells #[.func (.func 144) #[] #[.pointer (some ⟨w.heap.size + 1 + 1, 0, none⟩)]] 141)).alloc (.cells #[.slice A n c] 25)) 25 (.slice B m d)
  rw [World.size_alloc, World.size_alloc, World.size_alloc, World.size_alloc, World.size_alloc] at this
  exact this
def AddI (w : World) (k c0 : Nat) (v : Pair → Nat) (pre : List Pair) (W : World) : Prop :=
 ∃ S c, S.length = pre.length ∧ Words S ∧ c ≤ 1 ∧ natOf S + 4294967296 ^ S.length * c = c0 + natOf (pre.map v) ∧ AddSt w W w.heap.size k S c ∧ w.heap.size + 5 < W.heap.size
theorem addI_own {w W0 : World} {k c0 : Nat} {v : Pair → Nat} (hB : w.heap.size ≤ W0.heap.size) : OwnFrom W0.heap.size (AddI w k c0 v) := by
 rintro pre X Y row ⟨S, c, h1, h2, h3, h4, h5, h6⟩ hg hr
 exact ⟨S, c, h1, h2, h3, h4, h5.grown hg (fun r e => ⟨Nat.le_trans hB (hr r e).1, (hr r e).2⟩), Nat.lt_of_lt_of_le h6 hg.size⟩
theorem kp_put {n0 p q : Nat} {W0 : World} (hn : n0 ≤ W0.heap.size) (hp : p < W0.heap.size) (hq : q < W0.heap.size) (W : World) (l : Nat) (o o' : Obj) (hl : W0.heap.size ≤ l) (_h : W.heap[l]? = some o) (_ : o.isCells = false) (_ : o.isWalk = false) : Kp n0 p q W (W.putObj l o') :=
 ⟨by simp, fun k hk => World.putObj_heap_other (by omega), World.putObj_heap_other (by omega), World.putObj_heap_other (by omega)⟩
theorem words_lt {w : World} {A : Option Addr} {n : Nat} {xs : List Nat} (h : WordsAt w A n xs) : 0 < n → ∀ b off, A = some ⟨b, off, none⟩ → b < w.heap.size := fun hn b off e => by
 obtain ⟨b', off', e', hlt, _⟩ := h.2.2 hn
 rw [e] at e'
 injection e' with e'
 injection e' with e1 e2
 omega
set_option maxRecDepth 100000 in
set_option maxHeartbeats 4000000 in
theorem addW_n (A : Option Addr) (n c : Nat) (xs : List Nat) (B : Option Addr) (m d : Nat) (ys : List Nat) (w : World) (hx : WordsAt w A n xs) (hy : WordsAt w B m ys) (hn : n ≤ 1073741824) (hm : m ≤ 1073741824) (hnm : m ≤ n) :
  Calls Tryz.prog 128 #[.slice A n c, .slice B m d] w fun e w' => ∃ S, e = .returned (.slice (some ⟨w.heap.size, 0, none⟩) (n + 1) (n + 1)) ∧ natOf S = natOf xs + natOf ys ∧ WordsAt w' (some ⟨w.heap.size, 0, none⟩) (n + 1) S ∧ Fresh w' w.heap.size (some ⟨w.heap.size, 0, none⟩) ∧ Ext w w' := by
 obtain ⟨i0, hi, hz0, hz1, hz2⟩ := info_parts info_u32
 refine (callsIn_wide (n := 3)).1 ?_
 have hmk := make_words (n + 1) (by omega) ((n : Int) + 1) (by omega)
 refine callsIn_of_wp_marks Tryz.func128 rfl trivial ?_ rfl
 simp only [Tryz.ntmps128, List.size_toArray, List.length_cons, List.length_nil, Nat.reduceAdd, Nat.reduceSub, Array.replicate_succ, Array.replicate_zero, List.push_toArray, List.append_toArray, List.nil_append, List.cons_append]
 refine wpIn_wide.2 ?_
 go_wp2_with fail
 refine (carrier_any 0 _).mono ?_
 rintro e w1 ⟨rfl, rfl⟩
 go_wp2_with fail
 refine (pairs_any A n c B m d _).mono ?_
 rintro e w2 ⟨rfl, rfl⟩
 go_wp2_with fail
 refine (wpIn_wide (n := 3)).1 ?_
 change Code.wpIn _ _ _ _ _ _ (addW0 w (n + 1) 0 A n c B m d)
 have h0 := addW0_is w (n + 1) 0 (by omega) A n c B m d
 generalize addW0 w (n + 1) 0 A n c B m d = W0 at *
 obtain ⟨hst, hp, hq, hsz, hext⟩ := h0
 have HST := LH hst
 have HSZ := LH hsz
 have HX := LH hx
 have HY := LH hy
 have HP := LH hp
 have HQ := LH hq
 have hxw := hx.2.1
 have hyw := hy.2.1
 clear hst hsz hx hy hp hq
 refine wpIn_rangeFunc_ownG (F := Fence.wide) (n := 3) rfl (by omega) (gf := 149) (lb := #[.pointer (some ⟨w.heap.size + 4, 0, none⟩), .pointer (some ⟨w.heap.size + 5, 0, none⟩)]) rfl trivial (enters_of Tryz.func149 (by kernel_rfl) rfl)
  (pairs_stops A n c xs B m d ys (w.heap.size + 4) (w.heap.size + 5) w.heap.size hn hm ?hA ?hB W0 hxw hyw HP.out HQ.out (HX.out.below hext) (HY.out.below hext)) (fun h k => Kp.trans h k) (kp_put (by rw [HSZ.out]; omega) (by rw [HSZ.out]; omega) (by rw [HSZ.out]; omega)) (Below.refl _ _) (fun _ => rfl)
  (AddI w (n + 1) 0 vAdd) (fun _ _ _ => False) (addI_own (by rw [HSZ.out]; omega)) (fun _ _ _ _ _ h _ _ => h) ⟨[], 0, rfl, Words.nil, by omega, rfl, HST.out, by rw [HSZ.out]; omega⟩
  (fun x => { tmps := #[.slice A n c, .slice B m d, undef, undef, .slice none 0 0, .pointer (some ⟨w.heap.size + 1, 0, none⟩), .pointer (some ⟨w.heap.size + 1 + 1 + 1, 0, none⟩), .int .u64 (x.1.1 : Int), .int .u64 (x.1.2 : Int), .slice A n c,
   .int .i64 n, .slice B m d, .int .i64 m, .int .i64 n, .int .i64 ((n : Int) + 1), .slice (some ⟨w.heap.size, 0, none⟩) 0 (n + 1), carV (w.heap.size + 1 + 1), .slice A n c, .slice B m d,
   .func (.func 149) #[] #[.pointer (some ⟨w.heap.size + 1 + 1 + 1 + 1, 0, none⟩), .pointer (some ⟨w.heap.size + 1 + 1 + 1 + 1 + 1, 0, none⟩)], .int .u64 (x.1.1 : Int), .int .u64 (x.1.2 : Int),
   undef, undef, undef, undef, undef, undef, undef, undef, undef, undef, undef, undef, undef], defers := [] }) ?assign ?body ?done ?stop
 case hA => exact words_lt HX.out
 case hB => exact words_lt HY.out
 case assign =>
  intro l x W K hK
  gi_wp2
  exact hK
 case body =>
  rintro l pre x W ⟨S, cc, h1, h2, h3, h4, h5, h6⟩ hlen
  have H4 := LH h4
  have H1 := LH h1
  have d5 : W.drew.cell? ⟨w.heap.size + 1, 0, none⟩ = some _ := h5.bS.cell
  have d6 : W.drew.cell? ⟨w.heap.size + 3, 0, none⟩ = some _ := h5.bN.cell
  have x5 := fun y : ExtX W.drew [w.heap.size, w.heap.size + 2] => y.cell d5 (by simp)
  have x6 := fun y : ExtX W.drew [w.heap.size, w.heap.size + 2] => y.cell d6 (by simp)
  have H5 := LH h5
  obtain ⟨⟨px, py⟩, hpx, hpy⟩ := x
  clear h1 h4 h5
  dsimp only at hpx hpy ⊢
  gi_wp2
  refine wpIn_region_lex (C := InX W.drew [w.heap.size, w.heap.size + 2]) (by kernel_rfl) (by kernel_rfl) (by kernel_rfl) (inX_self _ _) ?_
  repeat (refine wpLex_still (by rfl) ?_; go_big_quiet_step (fail); refine wpQuiet_nil ?_)
  refine wpLex_move (by rfl) (by rfl) ?_
  go_wp2_with fail
  refine (next_any (w.heap.size + 2) (px + py) cc ((px : Int) + (py : Int)) W.drew (by omega) (by omega) H5.out.bC.cell H5.out.bC.frozen).mono ?_
  rintro e w1 ⟨rfl, rfl⟩
  have HP5 := LH (H5.out.drew.put ((px + py + cc) / 4294967296))
  have HC1 : Hid (InX W.drew [w.heap.size, w.heap.size + 2] (putC W.drew w.heap.size ((px + py + cc) / 4294967296))) := inX_put (inX_self _ _) (p := ⟨w.heap.size + 2, 0, none⟩) (.inl (by simp)) _
  obtain ⟨xw, hxw⟩ : ∃ xw, (px + py + cc) % 4294967296 = xw := ⟨_, rfl⟩
  obtain ⟨cw, hcw⟩ : ∃ cw, (px + py + cc) / 4294967296 = cw := ⟨_, rfl⟩
  have HXW := LH hxw
  have HCW := LH hcw
  rw [hcw] at HP5 HC1 ⊢
  rw [hxw]
  clear hxw hcw
  go_wp2_with fail
  refine And.intro HC1.out ?_
  change wpLex _ _ _ _ _ _ _ (putC W.drew w.heap.size cw)
  have HG1 := LH (fun (W3 : World) (o : Obj) (v : Value) (h : ((putC W.drew w.heap.size cw).alloc o).grownBy W3 (some w.heap.size)) => (⟨keeps_all (_W'' := W) (_x := 0) (_cap := 0) (v := v) ((own_row_block H5.out.own).imp fun _ h => ⟨_, h⟩) (by have := H5.out.size; omega) h, kp_all (p := w.heap.size + 4) (q := w.heap.size + 5) (v := v) (by omega) (by omega) (by omega) (by omega) h⟩ : KeepsOthers W (W3.setCell ⟨w.heap.size + 1, 0, none⟩ v) ∧ Kp w.heap.size (w.heap.size + 4) (w.heap.size + 5) W (W3.setCell ⟨w.heap.size + 1, 0, none⟩ v)))
  have HSZ1 : Hid ((putC W.drew w.heap.size cw).heap.size = W.heap.size) := by unfold Hid; simp [World.setCell]
  generalize putC W.drew w.heap.size cw = W1 at *
  refine wpLex_move (by rfl) (by rfl) ?_
  go_wp2_with fail
  refine And.intro (inX_ext HC1.out (Ext.al Ext.rfl' _)) ?_
  refine wpLex_move (by rfl) (by rfl) ?_
  refine wpList_append_fits _ rfl (.tmp 22) (.tmp 28) 25 rfl w.heap.size 44 i0 1 Tryz.underlying25 hi hz1 w.heap.size S.length (n + 1) (u32s S) rfl (HP5.out.new _).own ⟨W1.heap.size, 0, none⟩ 1 1 [.int .u32 (xw : Int)] rfl rfl (World.news_of_block (cs := #[.int .u32 (xw : Int)]) (t := 44) (fr := (0, 0)) (heap_alloc_new W1 _)) (by simp [Value.oneCell']) (by rw [H1.out]; omega) ?_
  intro w3 hown3 hg3
  have HO3 := LH hown3
  have HG3 := LH hg3
  clear hown3 hg3
  have happ := addst_app (HP5.out.new _) HG3.out HO3.out
  have b3c := happ.1.cell
  have b3f := happ.1.frozen
  have HS3 := LH happ.2
  clear happ
  refine And.intro (inX_grown (inX_ext HC1.out (Ext.al Ext.rfl' _)) HG3.out (fun k e => by cases e; simp)) ?_
  refine wpLex_last (by rfl) (by kernel_rfl) (by rfl) ?_
  go_wp2_with fail
  refine And.intro trivial (wpLex_nil ?_)
  have hk3 := HG1.out w3 _ (.slice (some ⟨w.heap.size, 0, none⟩) (S.length + 1) (n + 1)) HG3.out
  refine ⟨hk3.1.from _, hk3.2, S ++ [xw], cw, by simp [H1.out], h2.append (Words.cons (by rw [← HXW.out]; omega) Words.nil), by rw [← HCW.out]; omega, ?_, HS3.out, ?_⟩
  ·have hst := carry_step (v := px + py) H4.out
   rw [HXW.out, HCW.out] at hst
   rw [hst, natOf_map_snoc, H1.out]
   simp only [vAdd]
   omega
  ·have h8 := HG3.out.size
   have hs1 := HSZ1.out
   simp [World.setCell] at h8 ⊢
   omega
 case done =>
  rintro D zs W hD rfl ⟨S, cc, h1, h2, h3, h4, h5, h6⟩ hK
  rw [pairsTo_length, show max n m = n by omega] at h1
  rw [vAdd_to, fst_to, snd_to, show max n m = n by omega, List.take_of_length_le (by rw [HX.out.1]; omega), List.take_of_length_le (by rw [HY.out.1]; omega)] at h4
  have hDl : D < W.heap.size := Blk'lt hK
  have H4 := LH h4
  have H1 := LH h1
  have HK := LH hK
  have d5 : W.drew.cell? ⟨w.heap.size + 1, 0, none⟩ = some _ := h5.bS.cell
  have d6 : W.drew.cell? ⟨w.heap.size + 3, 0, none⟩ = some _ := h5.bN.cell
  have x5 := fun y : ExtX W.drew [w.heap.size, w.heap.size + 2] => y.cell d5 (by simp)
  have x6 := fun y : ExtX W.drew [w.heap.size, w.heap.size + 2] => y.cell d6 (by simp)
  have H5 := LH h5
  clear h1 h4 h5 hK
  go_wp2_with fail
  refine wp_region_lex (C := InX W.drew [w.heap.size, w.heap.size + 2]) (by kernel_rfl) (by kernel_rfl) (inX_self _ _) ?_
  repeat (refine wpLex_still (by rfl) ?_; go_big_quiet_step (fail); refine wpQuiet_nil ?_)
  refine wpLex_move (by rfl) (by rfl) ?_
  go_wp2_with fail
  refine (next_any (w.heap.size + 2) 0 cc 0 W.drew rfl (by omega) H5.out.bC.cell H5.out.bC.frozen).mono ?_
  rintro e w1 ⟨rfl, rfl⟩
  have HP5 := LH (H5.out.drew.put ((0 + cc) / 4294967296))
  have HC1 : Hid (InX W.drew [w.heap.size, w.heap.size + 2] (putC W.drew w.heap.size ((0 + cc) / 4294967296))) := inX_put (inX_self _ _) (p := ⟨w.heap.size + 2, 0, none⟩) (.inl (by simp)) _
  obtain ⟨xw, hxw⟩ : ∃ xw, (0 + cc) % 4294967296 = xw := ⟨_, rfl⟩
  obtain ⟨cw, hcw⟩ : ∃ cw, (0 + cc) / 4294967296 = cw := ⟨_, rfl⟩
  have HXW := LH hxw
  rw [hcw] at HP5 HC1 ⊢
  rw [hxw]
  clear hxw hcw
  go_wp2_with fail
  refine And.intro HC1.out ?_
  change wpLex _ _ _ _ _ _ _ (putC W.drew w.heap.size cw)
  have HSZ1 : Hid ((putC W.drew w.heap.size cw).heap.size = W.heap.size) := by unfold Hid; simp [World.setCell]
  have HKP : Hid (∀ k, k < W.heap.size → k ≠ w.heap.size + 2 → (putC W.drew w.heap.size cw).heap[k]? = W.heap[k]?) := fun k hk hne => Below.heap_setCell W.drew ⟨w.heap.size + 2, 0, none⟩ _ k (by simpa using hne)
  generalize putC W.drew w.heap.size cw = W1 at *
  refine wpLex_move (by rfl) (by rfl) ?_
  go_wp2_with fail
  refine And.intro (inX_ext HC1.out (Ext.al Ext.rfl' _)) ?_
  refine wpLex_move (by rfl) (by rfl) ?_
  refine wpList_append_fits _ rfl (.tmp 30) (.tmp 33) 25 rfl w.heap.size 44 i0 1 Tryz.underlying25 hi hz1 w.heap.size S.length (n + 1) (u32s S) rfl (HP5.out.new _).own ⟨W1.heap.size, 0, none⟩ 1 1 [.int .u32 (xw : Int)] rfl rfl (World.news_of_block (cs := #[.int .u32 (xw : Int)]) (t := 44) (fr := (0, 0)) (heap_alloc_new W1 _)) (by simp [Value.oneCell']) (by rw [H1.out]; omega) ?_
  intro w3 hown3 hg3
  rw [← u32s_snoc] at hown3
  have HO3 := LH hown3
  have HG3 := LH hg3
  clear hown3 hg3
  go_wp2_with fail
  refine And.intro (inX_grown (inX_ext HC1.out (Ext.al Ext.rfl' _)) HG3.out (fun k e => by cases e; simp)) ?_
  repeat (refine wpLex_still (by rfl) ?_; go_big_quiet_step (fail); refine wpQuiet_nil ?_)
  refine wpLex_nil ?_
  have HK3 : Hid (w3.heap[D]? = some (.deferred (some []))) := by
   unfold Hid
   have hs1 := HSZ1.out
   have hs0 := HSZ.out
   rw [HG3.out.block D (by simp; omega) (by simp; omega), Below.heap_alloc W1 _ D (by omega), HKP.out D hDl (by omega)]
   exact HK.out
  rw [H1.out]
  go_wp2_with fail
  refine ⟨by simp, .inl ⟨_, _, rfl, run_takeDeferred HK3.out, ?_⟩⟩
  refine ⟨_, results_tmp rfl _ _ _, S ++ [xw], rfl, ?_, ?_, ?_, ?_⟩
  ·rw [natOf_snoc]
   have e1 : xw = cc := by have := HXW.out; omega
   rw [e1, H4.out]
   omega
  ·have := ownsRow_putObj HO3.out (.deferred none) HK3.out rfl
   rw [H1.out] at this
   exact own_words this (h2.append (Words.cons (by have := HXW.out; omega) Words.nil))
  ·have := ownsRow_putObj HO3.out (.deferred none) HK3.out rfl
   exact own_fresh this (Nat.le_refl _)
  ·have hs1 := HSZ1.out
   have hs0 := HSZ.out
   have b1 := HP5.out.bel
   have b2 : Below w.heap.size w w3 := ((b1.alloc (by omega) _).grown HG3.out (by simp; omega) (fun k e => by cases e; exact Nat.le_refl _))
   exact b2.trans (belowK_b (w := W0) (by omega) w3 D _ _ hD HK3.out rfl rfl)
 case stop =>
  rintro D cd pre W _ _ h _
  exact h.elim
set_option maxRecDepth 100000 in
set_option maxHeartbeats 4000000 in
theorem addW_m (A : Option Addr) (n c : Nat) (xs : List Nat) (B : Option Addr) (m d : Nat) (ys : List Nat) (w : World) (hx : WordsAt w A n xs) (hy : WordsAt w B m ys) (hn : n ≤ 1073741824) (hm : m ≤ 1073741824) (hnm : n < m) :
  Calls Tryz.prog 128 #[.slice A n c, .slice B m d] w fun e w' => ∃ S, e = .returned (.slice (some ⟨w.heap.size, 0, none⟩) (m + 1) (m + 1)) ∧ natOf S = natOf xs + natOf ys ∧ WordsAt w' (some ⟨w.heap.size, 0, none⟩) (m + 1) S ∧ Fresh w' w.heap.size (some ⟨w.heap.size, 0, none⟩) ∧ Ext w w' := by
 obtain ⟨i0, hi, hz0, hz1, hz2⟩ := info_parts info_u32
 refine (callsIn_wide (n := 3)).1 ?_
 have hmk := make_words (m + 1) (by omega) ((m : Int) + 1) (by omega)
 refine callsIn_of_wp_marks Tryz.func128 rfl trivial ?_ rfl
 simp only [Tryz.ntmps128, List.size_toArray, List.length_cons, List.length_nil, Nat.reduceAdd, Nat.reduceSub, Array.replicate_succ, Array.replicate_zero, List.push_toArray, List.append_toArray, List.nil_append, List.cons_append]
 refine wpIn_wide.2 ?_
 go_wp2_with fail
 refine (carrier_any 0 _).mono ?_
 rintro e w1 ⟨rfl, rfl⟩
 go_wp2_with fail
 refine (pairs_any A n c B m d _).mono ?_
 rintro e w2 ⟨rfl, rfl⟩
 go_wp2_with fail
 refine (wpIn_wide (n := 3)).1 ?_
 change Code.wpIn _ _ _ _ _ _ (addW0 w (m + 1) 0 A n c B m d)
 have h0 := addW0_is w (m + 1) 0 (by omega) A n c B m d
 generalize addW0 w (m + 1) 0 A n c B m d = W0 at *
 obtain ⟨hst, hp, hq, hsz, hext⟩ := h0
 have HST := LH hst
 have HSZ := LH hsz
 have HX := LH hx
 have HY := LH hy
 have HP := LH hp
 have HQ := LH hq
 have hxw := hx.2.1
 have hyw := hy.2.1
 clear hst hsz hx hy hp hq
 refine wpIn_rangeFunc_ownG (F := Fence.wide) (n := 3) rfl (by omega) (gf := 149) (lb := #[.pointer (some ⟨w.heap.size + 4, 0, none⟩), .pointer (some ⟨w.heap.size + 5, 0, none⟩)]) rfl trivial (enters_of Tryz.func149 (by kernel_rfl) rfl)
  (pairs_stops A n c xs B m d ys (w.heap.size + 4) (w.heap.size + 5) w.heap.size hn hm ?hA ?hB W0 hxw hyw HP.out HQ.out (HX.out.below hext) (HY.out.below hext)) (fun h k => Kp.trans h k) (kp_put (by rw [HSZ.out]; omega) (by rw [HSZ.out]; omega) (by rw [HSZ.out]; omega)) (Below.refl _ _) (fun _ => rfl)
  (AddI w (m + 1) 0 vAdd) (fun _ _ _ => False) (addI_own (by rw [HSZ.out]; omega)) (fun _ _ _ _ _ h _ _ => h) ⟨[], 0, rfl, Words.nil, by omega, rfl, HST.out, by rw [HSZ.out]; omega⟩
  (fun x => { tmps := #[.slice A n c, .slice B m d, undef, undef, .slice none 0 0, .pointer (some ⟨w.heap.size + 1, 0, none⟩), .pointer (some ⟨w.heap.size + 1 + 1 + 1, 0, none⟩), .int .u64 (x.1.1 : Int), .int .u64 (x.1.2 : Int), .slice A n c,
   .int .i64 n, .slice B m d, .int .i64 m, .int .i64 m, .int .i64 ((m : Int) + 1), .slice (some ⟨w.heap.size, 0, none⟩) 0 (m + 1), carV (w.heap.size + 1 + 1), .slice A n c, .slice B m d,
   .func (.func 149) #[] #[.pointer (some ⟨w.heap.size + 1 + 1 + 1 + 1, 0, none⟩), .pointer (some ⟨w.heap.size + 1 + 1 + 1 + 1 + 1, 0, none⟩)], .int .u64 (x.1.1 : Int), .int .u64 (x.1.2 : Int),
   undef, undef, undef, undef, undef, undef, undef, undef, undef, undef, undef, undef, undef], defers := [] }) ?assign ?body ?done ?stop
 case hA => exact words_lt HX.out
 case hB => exact words_lt HY.out
 case assign =>
  intro l x W K hK
  gi_wp2
  exact hK
 case body =>
  rintro l pre x W ⟨S, cc, h1, h2, h3, h4, h5, h6⟩ hlen
  have H4 := LH h4
  have H1 := LH h1
  have d5 : W.drew.cell? ⟨w.heap.size + 1, 0, none⟩ = some _ := h5.bS.cell
  have d6 : W.drew.cell? ⟨w.heap.size + 3, 0, none⟩ = some _ := h5.bN.cell
  have x5 := fun y : ExtX W.drew [w.heap.size, w.heap.size + 2] => y.cell d5 (by simp)
  have x6 := fun y : ExtX W.drew [w.heap.size, w.heap.size + 2] => y.cell d6 (by simp)
  have H5 := LH h5
  obtain ⟨⟨px, py⟩, hpx, hpy⟩ := x
  clear h1 h4 h5
  dsimp only at hpx hpy ⊢
  gi_wp2
  refine wpIn_region_lex (C := InX W.drew [w.heap.size, w.heap.size + 2]) (by kernel_rfl) (by kernel_rfl) (by kernel_rfl) (inX_self _ _) ?_
  repeat (refine wpLex_still (by rfl) ?_; go_big_quiet_step (fail); refine wpQuiet_nil ?_)
  refine wpLex_move (by rfl) (by rfl) ?_
  go_wp2_with fail
  refine (next_any (w.heap.size + 2) (px + py) cc ((px : Int) + (py : Int)) W.drew (by omega) (by omega) H5.out.bC.cell H5.out.bC.frozen).mono ?_
  rintro e w1 ⟨rfl, rfl⟩
  have HP5 := LH (H5.out.drew.put ((px + py + cc) / 4294967296))
  have HC1 : Hid (InX W.drew [w.heap.size, w.heap.size + 2] (putC W.drew w.heap.size ((px + py + cc) / 4294967296))) := inX_put (inX_self _ _) (p := ⟨w.heap.size + 2, 0, none⟩) (.inl (by simp)) _
  obtain ⟨xw, hxw⟩ : ∃ xw, (px + py + cc) % 4294967296 = xw := ⟨_, rfl⟩
  obtain ⟨cw, hcw⟩ : ∃ cw, (px + py + cc) / 4294967296 = cw := ⟨_, rfl⟩
  have HXW := LH hxw
  have HCW := LH hcw
  rw [hcw] at HP5 HC1 ⊢
  rw [hxw]
  clear hxw hcw
  go_wp2_with fail
  refine And.intro HC1.out ?_
  change wpLex _ _ _ _ _ _ _ (putC W.drew w.heap.size cw)
  have HG1 := LH (fun (W3 : World) (o : Obj) (v : Value) (h : ((putC W.drew w.heap.size cw).alloc o).grownBy W3 (some w.heap.size)) => (⟨keeps_all (_W'' := W) (_x := 0) (_cap := 0) (v := v) ((own_row_block H5.out.own).imp fun _ h => ⟨_, h⟩) (by have := H5.out.size; omega) h, kp_all (p := w.heap.size + 4) (q := w.heap.size + 5) (v := v) (by omega) (by omega) (by omega) (by omega) h⟩ : KeepsOthers W (W3.setCell ⟨w.heap.size + 1, 0, none⟩ v) ∧ Kp w.heap.size (w.heap.size + 4) (w.heap.size + 5) W (W3.setCell ⟨w.heap.size + 1, 0, none⟩ v)))
  have HSZ1 : Hid ((putC W.drew w.heap.size cw).heap.size = W.heap.size) := by unfold Hid; simp [World.setCell]
  generalize putC W.drew w.heap.size cw = W1 at *
  refine wpLex_move (by rfl) (by rfl) ?_
  go_wp2_with fail
  refine And.intro (inX_ext HC1.out (Ext.al Ext.rfl' _)) ?_
  refine wpLex_move (by rfl) (by rfl) ?_
  refine wpList_append_fits _ rfl (.tmp 22) (.tmp 28) 25 rfl w.heap.size 44 i0 1 Tryz.underlying25 hi hz1 w.heap.size S.length (m + 1) (u32s S) rfl (HP5.out.new _).own ⟨W1.heap.size, 0, none⟩ 1 1 [.int .u32 (xw : Int)] rfl rfl (World.news_of_block (cs := #[.int .u32 (xw : Int)]) (t := 44) (fr := (0, 0)) (heap_alloc_new W1 _)) (by simp [Value.oneCell']) (by rw [H1.out]; omega) ?_
  intro w3 hown3 hg3
  have HO3 := LH hown3
  have HG3 := LH hg3
  clear hown3 hg3
  have happ := addst_app (HP5.out.new _) HG3.out HO3.out
  have b3c := happ.1.cell
  have b3f := happ.1.frozen
  have HS3 := LH happ.2
  clear happ
  refine And.intro (inX_grown (inX_ext HC1.out (Ext.al Ext.rfl' _)) HG3.out (fun k e => by cases e; simp)) ?_
  refine wpLex_last (by rfl) (by kernel_rfl) (by rfl) ?_
  go_wp2_with fail
  refine And.intro trivial (wpLex_nil ?_)
  have hk3 := HG1.out w3 _ (.slice (some ⟨w.heap.size, 0, none⟩) (S.length + 1) (m + 1)) HG3.out
  refine ⟨hk3.1.from _, hk3.2, S ++ [xw], cw, by simp [H1.out], h2.append (Words.cons (by rw [← HXW.out]; omega) Words.nil), by rw [← HCW.out]; omega, ?_, HS3.out, ?_⟩
  ·have hst := carry_step (v := px + py) H4.out
   rw [HXW.out, HCW.out] at hst
   rw [hst, natOf_map_snoc, H1.out]
   simp only [vAdd]
   omega
  ·have h8 := HG3.out.size
   have hs1 := HSZ1.out
   simp [World.setCell] at h8 ⊢
   omega
 case done =>
  rintro D zs W hD rfl ⟨S, cc, h1, h2, h3, h4, h5, h6⟩ hK
  rw [pairsTo_length, show max n m = m by omega] at h1
  rw [vAdd_to, fst_to, snd_to, show max n m = m by omega, List.take_of_length_le (by rw [HX.out.1]; omega), List.take_of_length_le (by rw [HY.out.1]; omega)] at h4
  have hDl : D < W.heap.size := Blk'lt hK
  have H4 := LH h4
  have H1 := LH h1
  have HK := LH hK
  have d5 : W.drew.cell? ⟨w.heap.size + 1, 0, none⟩ = some _ := h5.bS.cell
  have d6 : W.drew.cell? ⟨w.heap.size + 3, 0, none⟩ = some _ := h5.bN.cell
  have x5 := fun y : ExtX W.drew [w.heap.size, w.heap.size + 2] => y.cell d5 (by simp)
  have x6 := fun y : ExtX W.drew [w.heap.size, w.heap.size + 2] => y.cell d6 (by simp)
  have H5 := LH h5
  clear h1 h4 h5 hK
  go_wp2_with fail
  refine wp_region_lex (C := InX W.drew [w.heap.size, w.heap.size + 2]) (by kernel_rfl) (by kernel_rfl) (inX_self _ _) ?_
  repeat (refine wpLex_still (by rfl) ?_; go_big_quiet_step (fail); refine wpQuiet_nil ?_)
  refine wpLex_move (by rfl) (by rfl) ?_
  go_wp2_with fail
  refine (next_any (w.heap.size + 2) 0 cc 0 W.drew rfl (by omega) H5.out.bC.cell H5.out.bC.frozen).mono ?_
  rintro e w1 ⟨rfl, rfl⟩
  have HP5 := LH (H5.out.drew.put ((0 + cc) / 4294967296))
  have HC1 : Hid (InX W.drew [w.heap.size, w.heap.size + 2] (putC W.drew w.heap.size ((0 + cc) / 4294967296))) := inX_put (inX_self _ _) (p := ⟨w.heap.size + 2, 0, none⟩) (.inl (by simp)) _
  obtain ⟨xw, hxw⟩ : ∃ xw, (0 + cc) % 4294967296 = xw := ⟨_, rfl⟩
  obtain ⟨cw, hcw⟩ : ∃ cw, (0 + cc) / 4294967296 = cw := ⟨_, rfl⟩
  have HXW := LH hxw
  rw [hcw] at HP5 HC1 ⊢
  rw [hxw]
  clear hxw hcw
  go_wp2_with fail
  refine And.intro HC1.out ?_
  change wpLex _ _ _ _ _ _ _ (putC W.drew w.heap.size cw)
  have HSZ1 : Hid ((putC W.drew w.heap.size cw).heap.size = W.heap.size) := by unfold Hid; simp [World.setCell]
  have HKP : Hid (∀ k, k < W.heap.size → k ≠ w.heap.size + 2 → (putC W.drew w.heap.size cw).heap[k]? = W.heap[k]?) := fun k hk hne => Below.heap_setCell W.drew ⟨w.heap.size + 2, 0, none⟩ _ k (by simpa using hne)
  generalize putC W.drew w.heap.size cw = W1 at *
  refine wpLex_move (by rfl) (by rfl) ?_
  go_wp2_with fail
  refine And.intro (inX_ext HC1.out (Ext.al Ext.rfl' _)) ?_
  refine wpLex_move (by rfl) (by rfl) ?_
  refine wpList_append_fits _ rfl (.tmp 30) (.tmp 33) 25 rfl w.heap.size 44 i0 1 Tryz.underlying25 hi hz1 w.heap.size S.length (m + 1) (u32s S) rfl (HP5.out.new _).own ⟨W1.heap.size, 0, none⟩ 1 1 [.int .u32 (xw : Int)] rfl rfl (World.news_of_block (cs := #[.int .u32 (xw : Int)]) (t := 44) (fr := (0, 0)) (heap_alloc_new W1 _)) (by simp [Value.oneCell']) (by rw [H1.out]; omega) ?_
  intro w3 hown3 hg3
  rw [← u32s_snoc] at hown3
  have HO3 := LH hown3
  have HG3 := LH hg3
  clear hown3 hg3
  go_wp2_with fail
  refine And.intro (inX_grown (inX_ext HC1.out (Ext.al Ext.rfl' _)) HG3.out (fun k e => by cases e; simp)) ?_
  repeat (refine wpLex_still (by rfl) ?_; go_big_quiet_step (fail); refine wpQuiet_nil ?_)
  refine wpLex_nil ?_
  have HK3 : Hid (w3.heap[D]? = some (.deferred (some []))) := by
   unfold Hid
   have hs1 := HSZ1.out
   have hs0 := HSZ.out
   rw [HG3.out.block D (by simp; omega) (by simp; omega), Below.heap_alloc W1 _ D (by omega), HKP.out D hDl (by omega)]
   exact HK.out
  rw [H1.out]
  go_wp2_with fail
  refine ⟨by simp, .inl ⟨_, _, rfl, run_takeDeferred HK3.out, ?_⟩⟩
  refine ⟨_, results_tmp rfl _ _ _, S ++ [xw], rfl, ?_, ?_, ?_, ?_⟩
  ·rw [natOf_snoc]
   have e1 : xw = cc := by have := HXW.out; omega
   rw [e1, H4.out]
   omega
  ·have := ownsRow_putObj HO3.out (.deferred none) HK3.out rfl
   rw [H1.out] at this
   exact own_words this (h2.append (Words.cons (by have := HXW.out; omega) Words.nil))
  ·have := ownsRow_putObj HO3.out (.deferred none) HK3.out rfl
   exact own_fresh this (Nat.le_refl _)
  ·have hs1 := HSZ1.out
   have hs0 := HSZ.out
   have b1 := HP5.out.bel
   have b2 : Below w.heap.size w w3 := ((b1.alloc (by omega) _).grown HG3.out (by simp; omega) (fun k e => by cases e; exact Nat.le_refl _))
   exact b2.trans (belowK_b (w := W0) (by omega) w3 D _ _ hD HK3.out rfl rfl)
 case stop =>
  rintro D cd pre W _ _ h _
  exact h.elim
set_option maxRecDepth 100000 in
set_option maxHeartbeats 4000000 in
theorem subWords_any (A : Option Addr) (n c : Nat) (xs : List Nat) (B : Option Addr) (m d : Nat) (ys : List Nat) (w : World) (hx : WordsAt w A n xs) (hy : WordsAt w B m ys) (hn : n ≤ 1073741824) (hm : m ≤ 1073741824) (hnm : m ≤ n) (hle : natOf ys ≤ natOf xs) :
  Calls Tryz.prog 129 #[.slice A n c, .slice B m d] w fun e w' => ∃ S, e = .returned (.slice (some ⟨w.heap.size, 0, none⟩) n n) ∧ natOf S = natOf xs - natOf ys ∧ WordsAt w' (some ⟨w.heap.size, 0, none⟩) n S ∧ Fresh w' w.heap.size (some ⟨w.heap.size, 0, none⟩) ∧ Ext w w' := by
 obtain ⟨i0, hi, hz0, hz1, hz2⟩ := info_parts info_u32
 refine (callsIn_wide (n := 3)).1 ?_
 have hmk := make_words n (by omega) (n : Int) rfl
 refine callsIn_of_wp_marks Tryz.func129 rfl trivial ?_ rfl
 simp only [Tryz.ntmps129, List.size_toArray, List.length_cons, List.length_nil, Nat.reduceAdd, Nat.reduceSub, Array.replicate_succ, Array.replicate_zero, List.push_toArray, List.append_toArray, List.nil_append, List.cons_append]
 refine wpIn_wide.2 ?_
 go_wp2_with fail
 refine (carrier_any 1 _).mono ?_
 rintro e w1 ⟨rfl, rfl⟩
 go_wp2_with fail
 refine (pairs_any A n c B m d _).mono ?_
 rintro e w2 ⟨rfl, rfl⟩
 go_wp2_with fail
 refine (wpIn_wide (n := 3)).1 ?_
 change Code.wpIn _ _ _ _ _ _ (addW0 w n 1 A n c B m d)
 have h0 := addW0_is w n 1 (by omega) A n c B m d
 generalize addW0 w n 1 A n c B m d = W0 at *
 obtain ⟨hst, hp, hq, hsz, hext⟩ := h0
 have HST := LH hst
 have HSZ := LH hsz
 have HX := LH hx
 have HY := LH hy
 have HP := LH hp
 have HQ := LH hq
 have hxw := hx.2.1
 have hyw := hy.2.1
 clear hst hsz hx hy hp hq
 refine wpIn_rangeFunc_ownG (F := Fence.wide) (n := 3) rfl (by omega) (gf := 149) (lb := #[.pointer (some ⟨w.heap.size + 4, 0, none⟩), .pointer (some ⟨w.heap.size + 5, 0, none⟩)]) rfl trivial (enters_of Tryz.func149 (by kernel_rfl) rfl)
  (pairs_stops A n c xs B m d ys (w.heap.size + 4) (w.heap.size + 5) w.heap.size hn hm ?hA ?hB W0 hxw hyw HP.out HQ.out (HX.out.below hext) (HY.out.below hext)) (fun h k => Kp.trans h k) (kp_put (by rw [HSZ.out]; omega) (by rw [HSZ.out]; omega) (by rw [HSZ.out]; omega)) (Below.refl _ _) (fun _ => rfl)
  (AddI w n 1 vSub) (fun _ _ _ => False) (addI_own (by rw [HSZ.out]; omega)) (fun _ _ _ _ _ h _ _ => h) ⟨[], 1, rfl, Words.nil, by omega, rfl, HST.out, by rw [HSZ.out]; omega⟩
  (fun x => { tmps := #[.slice A n c, .slice B m d, undef, undef, .slice none 0 0, .pointer (some ⟨w.heap.size + 1, 0, none⟩), .pointer (some ⟨w.heap.size + 1 + 1 + 1, 0, none⟩), .int .u64 (x.1.1 : Int), .int .u64 (x.1.2 : Int), .slice A n c,
   .int .i64 n, .slice (some ⟨w.heap.size, 0, none⟩) 0 n, carV (w.heap.size + 1 + 1), .slice A n c, .slice B m d,
   .func (.func 149) #[] #[.pointer (some ⟨w.heap.size + 1 + 1 + 1 + 1, 0, none⟩), .pointer (some ⟨w.heap.size + 1 + 1 + 1 + 1 + 1, 0, none⟩)], .int .u64 (x.1.1 : Int), .int .u64 (x.1.2 : Int),
   undef, undef, undef, undef, undef, undef, undef, undef, undef, undef], defers := [] }) ?assign ?body ?done ?stop
 case hA => exact words_lt HX.out
 case hB => exact words_lt HY.out
 case assign =>
  intro l x W K hK
  gi_wp2
  exact hK
 case body =>
  rintro l pre x W ⟨S, cc, h1, h2, h3, h4, h5, h6⟩ hlen
  have H4 := LH h4
  have H1 := LH h1
  have d5 : W.drew.cell? ⟨w.heap.size + 1, 0, none⟩ = some _ := h5.bS.cell
  have d6 : W.drew.cell? ⟨w.heap.size + 3, 0, none⟩ = some _ := h5.bN.cell
  have x5 := fun y : ExtX W.drew [w.heap.size, w.heap.size + 2] => y.cell d5 (by simp)
  have x6 := fun y : ExtX W.drew [w.heap.size, w.heap.size + 2] => y.cell d6 (by simp)
  have H5 := LH h5
  obtain ⟨⟨px, py⟩, hpx, hpy⟩ := x
  clear h1 h4 h5
  dsimp only at hpx hpy ⊢
  gi_wp2
  refine wpIn_region_lex (C := InX W.drew [w.heap.size, w.heap.size + 2]) (by kernel_rfl) (by kernel_rfl) (by kernel_rfl) (inX_self _ _) ?_
  repeat (refine wpLex_still (by rfl) ?_; go_big_quiet_step (fail); refine wpQuiet_nil ?_)
  refine wpLex_move (by rfl) (by rfl) ?_
  go_wp2_with fail
  refine (next_any (w.heap.size + 2) (px + (4294967295 - py)) cc ((px : Int) + (4294967295 - (py : Int))) W.drew (by omega) (by omega) H5.out.bC.cell H5.out.bC.frozen).mono ?_
  rintro e w1 ⟨rfl, rfl⟩
  have HP5 := LH (H5.out.drew.put ((px + (4294967295 - py) + cc) / 4294967296))
  have HC1 : Hid (InX W.drew [w.heap.size, w.heap.size + 2] (putC W.drew w.heap.size ((px + (4294967295 - py) + cc) / 4294967296))) := inX_put (inX_self _ _) (p := ⟨w.heap.size + 2, 0, none⟩) (.inl (by simp)) _
  obtain ⟨xw, hxw⟩ : ∃ xw, (px + (4294967295 - py) + cc) % 4294967296 = xw := ⟨_, rfl⟩
  obtain ⟨cw, hcw⟩ : ∃ cw, (px + (4294967295 - py) + cc) / 4294967296 = cw := ⟨_, rfl⟩
  have HXW := LH hxw
  have HCW := LH hcw
  rw [hcw] at HP5 HC1 ⊢
  rw [hxw]
  clear hxw hcw
  go_wp2_with fail
  refine And.intro HC1.out ?_
  change wpLex _ _ _ _ _ _ _ (putC W.drew w.heap.size cw)
  have HG1 := LH (fun (W3 : World) (o : Obj) (v : Value) (h : ((putC W.drew w.heap.size cw).alloc o).grownBy W3 (some w.heap.size)) => (⟨keeps_all (_W'' := W) (_x := 0) (_cap := 0) (v := v) ((own_row_block H5.out.own).imp fun _ h => ⟨_, h⟩) (by have := H5.out.size; omega) h, kp_all (p := w.heap.size + 4) (q := w.heap.size + 5) (v := v) (by omega) (by omega) (by omega) (by omega) h⟩ : KeepsOthers W (W3.setCell ⟨w.heap.size + 1, 0, none⟩ v) ∧ Kp w.heap.size (w.heap.size + 4) (w.heap.size + 5) W (W3.setCell ⟨w.heap.size + 1, 0, none⟩ v)))
  have HSZ1 : Hid ((putC W.drew w.heap.size cw).heap.size = W.heap.size) := by unfold Hid; simp [World.setCell]
  generalize putC W.drew w.heap.size cw = W1 at *
  refine wpLex_move (by rfl) (by rfl) ?_
  go_wp2_with fail
  refine And.intro (inX_ext HC1.out (Ext.al Ext.rfl' _)) ?_
  refine wpLex_move (by rfl) (by rfl) ?_
  refine wpList_append_fits _ rfl (.tmp 18) (.tmp 25) 25 rfl w.heap.size 44 i0 1 Tryz.underlying25 hi hz1 w.heap.size S.length n (u32s S) rfl (HP5.out.new _).own ⟨W1.heap.size, 0, none⟩ 1 1 [.int .u32 (xw : Int)] rfl rfl (World.news_of_block (cs := #[.int .u32 (xw : Int)]) (t := 44) (fr := (0, 0)) (heap_alloc_new W1 _)) (by simp [Value.oneCell']) (by rw [H1.out]; omega) ?_
  intro w3 hown3 hg3
  have HO3 := LH hown3
  have HG3 := LH hg3
  clear hown3 hg3
  have happ := addst_app (HP5.out.new _) HG3.out HO3.out
  have b3c := happ.1.cell
  have b3f := happ.1.frozen
  have HS3 := LH happ.2
  clear happ
  refine And.intro (inX_grown (inX_ext HC1.out (Ext.al Ext.rfl' _)) HG3.out (fun k e => by cases e; simp)) ?_
  refine wpLex_last (by rfl) (by kernel_rfl) (by rfl) ?_
  go_wp2_with fail
  refine And.intro trivial (wpLex_nil ?_)
  have hk3 := HG1.out w3 _ (.slice (some ⟨w.heap.size, 0, none⟩) (S.length + 1) n) HG3.out
  refine ⟨hk3.1.from _, hk3.2, S ++ [xw], cw, by simp [H1.out], h2.append (Words.cons (by rw [← HXW.out]; omega) Words.nil), by rw [← HCW.out]; omega, ?_, HS3.out, ?_⟩
  ·have hst := carry_step (v := px + (4294967295 - py)) H4.out
   rw [HXW.out, HCW.out] at hst
   rw [hst, natOf_map_snoc, H1.out]
   simp only [vSub]
   omega
  ·have h8 := HG3.out.size
   have hs1 := HSZ1.out
   simp [World.setCell] at h8 ⊢
   omega
 case done =>
  rintro D zs W hD rfl ⟨S, cc, h1, h2, h3, h4, h5, h6⟩ hK
  rw [pairsTo_length, show max n m = n by omega] at h1
  have h7 := vSub_to (pairsTo hxw hyw (max n m))
  have ex : xs.take n = xs := List.take_of_length_le (by rw [HX.out.1]; omega)
  have ey : ys.take n = ys := List.take_of_length_le (by rw [HY.out.1]; omega)
  rw [fst_to, snd_to, pairsTo_length, show max n m = n by omega, ex, ey] at h7
  rw [show max n m = n by omega] at h4
  have HV : Hid (natOf S = natOf xs - natOf ys) := by
   have h8 := natOf_lt h2
   rw [h1] at h8 h4
   unfold Hid
   generalize natOf ((pairsTo hxw hyw n).map vSub) = V at *
   have h9 : cc = 0 ∨ cc = 1 := by omega
   rcases h9 with rfl | rfl
   ·omega
   ·omega
  have hDl : D < W.heap.size := Blk'lt hK
  have H1 := LH h1
  have HK := LH hK
  have d5 : W.cell? ⟨w.heap.size + 1, 0, none⟩ = some _ := h5.bS.cell
  have H5 := LH h5
  clear h1 h4 h5 hK h7 ex ey
  rw [H1.out] at d5
  go_wp2_with fail
  refine ⟨by simp, .inl ⟨_, _, rfl, run_takeDeferred HK.out, ?_⟩⟩
  have hown := ownsRow_putObj H5.out.own (.deferred none) HK.out rfl
  rw [H1.out] at hown
  refine ⟨_, results_tmp rfl _ _ _, S, rfl, HV.out, own_words hown h2, own_fresh hown (Nat.le_refl _), ?_⟩
  have hs0 := HSZ.out
  exact H5.out.bel.trans (belowK_b (w := W0) (by omega) W D _ _ hD HK.out rfl rfl)
 case stop =>
  rintro D cd pre W _ _ h _
  exact h.elim
end Go.Proofs.YtjinpfnefeiooaaGreat
