/- Contracts of whole.Abs and frac.Abs. -/
import Derived.Test.YtjinpfnefeiooaaFracN
namespace Go.Proofs.Ytjinpfnefeiooaa
open Go.RowKit

def absQ (q : Rat) : Rat := if q < 0 then -q else q
theorem absQ_num (q : Rat) : (absQ q).num = (q.num.natAbs : Int) := by
  unfold absQ
  by_cases h : q < 0
  · rw [if_pos h, Rat.neg_num]
    have : ¬ 0 ≤ q.num := fun e => Rat.not_le.2 h (Rat.num_nonneg.1 e)
    omega
  · rw [if_neg h]
    have : 0 ≤ q.num := Rat.num_nonneg.2 (Rat.not_lt.1 h)
    omega
theorem absQ_den (q : Rat) : (absQ q).den = q.den := by
  unfold absQ
  split
  · exact Rat.neg_den q
  · rfl
theorem absQ_nonneg (q : Rat) : 0 ≤ absQ q := Rat.num_nonneg.1 (by rw [absQ_num]; omega)
theorem sz_abs {k : Nat} {q : Rat} (h : Sz k q) : Sz k (absQ q) := by
  unfold absQ
  split
  · exact h.neg
  · exact h
set_option maxRecDepth 100000 in
set_option maxHeartbeats 1600000 in
theorem zabs_any (b : Bool) (A : Option Addr) (n c : Nat) (z : Int) (w : World) (h : ZIs w b A n c z) (hn : n ≤ 1073741824) :
    Calls Try.prog 50 #[.agg #[.bool b, .slice A n c]] w (RetZ w (z.natAbs : Int)) := by
  obtain ⟨xs, h1, h2, h3, rfl⟩ := h
  have HS : Hid (sgn false (natOf xs) = ((sgn b (natOf xs)).natAbs : Int)) := by unfold Hid sgn; cases b <;> simp
  go_enter Try.func50, Try.ntmps50
  go_wp2_with fail
  have hE : Ext w ((w.alloc (.cells #[.bool b, .slice A n c] 32)).alloc (.cells #[.bool false, .slice none 0 0] 32)) := Ext.al (Ext.al Ext.rfl' _) _
  have r0 := Cell2.new (w.alloc (.cells #[.bool b, .slice A n c] 32)) (w.heap.size + 1) (by simp) (.bool false) (.slice none 0 0) 32
  generalize ((w.alloc (.cells #[.bool b, .slice A n c] 32)).alloc (.cells #[.bool false, .slice none 0 0] 32)) = W at *
  have HE := Lib.hid hE
  have HR := Lib.hid r0
  have H1 := Lib.hid h1
  have hle := words_len_ge h1.2.1
  rw [h1.1] at hle
  have hle2 : (wordsOf (natOf xs)).length ≤ 4294967296 := by omega
  clear r0 h1 hE
  refine (trim_any A n c xs W (H1.out.below HE.out) h2 h3).mono ?_
  rintro e w1 ⟨rfl, rfl⟩
  go_wp2_with fail
  have HT := Lib.hid (H1.out.below HE.out).trim
  refine (clone_any A (wordsOf (natOf xs)).length c (wordsOf (natOf xs)) W HT.out hle2).mono ?_
  rintro e w2 ⟨A2, c2, rfl, hN2, hb2⟩
  have HN2 := Lib.hid hN2
  have HB2 := Lib.hid hb2
  clear hN2 hb2
  go_wp2_with fail
  refine (build_any false A2 _ c2 (wordsOf (natOf xs)) w2 W.heap.size HN2.out.1 HN2.out.2.1 HN2.out.2.2.1 HN2.out.2.2.2).mono ?_
  rintro e w3 ⟨b', A', n', c', rfl, hz, hb3⟩
  rw [natOf_wordsOf, HS.out] at hz
  have HZ := Lib.hid hz
  have HB3 := Lib.hid (Ext.trans HB2.out hb3)
  clear hz hb3
  obtain ⟨e0, e1, f0, f1, hrl⟩ := HR.out.ext HB3.out
  have hrz : w.heap.size + 1 < W.heap.size := HR.out.2.2.2.2
  go_wp2_with fail
  refine bodyPost_ret (v := .agg #[.bool b', .slice A' n' c']) (by simp [results, Try.results50, go_sem, e0, e1]) rfl ?_
  exact ⟨_, _, _, _, rfl, retZ_fill (by omega) hrz HZ.out (Ext.trans HE.out HB3.out) _ _⟩
set_option maxRecDepth 100000 in
set_option maxHeartbeats 4000000 in
theorem qabs_any (s1 : Bool) (A1 : Option Addr) (n1 c1 : Nat) (t1 : Bool) (B1 : Option Addr) (m1 d1 : Nat) (q : Rat) (w : World) (h1 : QArg w s1 A1 n1 c1 t1 B1 m1 d1 q) :
    Calls Try.prog 22 #[.agg #[.bool s1, .slice A1 n1 c1, .bool t1, .slice B1 m1 d1]] w (RetQ w (absQ q)) := by
  have HSZ : Hid (Sz 33554432 q) := h1.1.sz h1.2.1 h1.2.2 (by omega)
  go_enter Try.func22, Try.ntmps22
  go_wp2_with fail
  obtain ⟨k1, k2, hE⟩ := boxQ2 w (.bool s1) (.slice A1 n1 c1) (.bool t1) (.slice B1 m1 d1) (.bool false) (.slice none 0 0) (.bool false) (.slice none 0 0) 34
  generalize (w.alloc (.cells #[.bool s1, .slice A1 n1 c1, .bool t1, .slice B1 m1 d1] 34)).alloc (.cells #[.bool false, .slice none 0 0, .bool false, .slice none 0 0] 34) = w1 at *
  refine (qcan_any s1 A1 n1 c1 t1 B1 m1 d1 q w1 (h1.ext hE)).mono ?_
  rintro e w2 ⟨s, A, n, c, t, B, m, d, rfl, hQ, hE2⟩
  have hlen := hQ.len HSZ.out
  have K2 := Lib.hid (k2.ext hE2)
  have hl : w.heap.size + 1 < w1.heap.size := k2.2.2
  have HQ := Lib.hid hQ
  have HE2 := Lib.hid (Ext.trans hE hE2)
  have hsz : w1.heap.size ≤ w2.heap.size := hE2.size
  clear k1 k2 hE hE2 h1 hQ
  obtain ⟨hln, hlm⟩ := hlen
  go_wp2_with fail
  have k3 := Cell4.new w2 _ rfl (.bool s) (.slice A n c) (.bool t) (.slice B m d) 34
  have hE3 : Ext w2 (w2.alloc (.cells #[.bool s, .slice A n c, .bool t, .slice B m d] 34)) := Ext.al Ext.rfl' _
  generalize w2.alloc (.cells #[.bool s, .slice A n c, .bool t, .slice B m d] 34) = w3 at *
  have K3 := Lib.hid (k3.ext (Ext.rfl' (w := w3)).drew)
  have K2' := Lib.hid ((K2.out.ext hE3).ext (Ext.rfl' (w := w3)).drew)
  have HQ' := Lib.hid ((HQ.out.ext hE3).ext (Ext.rfl' (w := w3)).drew)
  have HE : Hid (Ext w w3.drew) := (Ext.trans HE2.out hE3).drew
  have hsz3 : w2.heap.size < w3.drew.heap.size := K3.out.2.2
  clear k3 hE3 K2 HQ HE2
  refine wp_region_lex (C := InX w3.drew []) (by kernel_rfl) (by kernel_rfl) (inX_self _ _) ?_
  generalize w3.drew = wd at *
  have x0 := fun y : ExtX wd [] => y.cell (p := ⟨w2.heap.size, 0, none⟩) K3.out.1.1 (by simp)
  have x1 := fun y : ExtX wd [] => y.cell (p := ⟨w2.heap.size, 1, none⟩) K3.out.1.2.1 (by simp)
  have x2 := fun y : ExtX wd [] => y.cell (p := ⟨w2.heap.size, 2, none⟩) K3.out.1.2.2.1 (by simp)
  have x3 := fun y : ExtX wd [] => y.cell (p := ⟨w2.heap.size, 3, none⟩) K3.out.1.2.2.2 (by simp)
  repeat (refine wpLex_still (by rfl) ?_; go_big_quiet_step (exact ⟨rfl, rfl⟩); refine wpQuiet_nil ?_)
  refine wpLex_move (by rfl) (by rfl) ?_
  go_wp2_with fail
  refine (zabs_any s A n c q.num wd HQ'.out.1.is (by omega)).mono ?_
  rintro e w4 ⟨r, R, k, l, rfl, hZ, hE4⟩
  have hQ : QCan w4 w1.heap.size r R k l t B m d (absQ q) := by
    refine ⟨?_, ?_⟩
    · rw [absQ_num]
      exact hZ.base (by omega)
    · have := (HQ'.out.ext hE4).2
      unfold denOf at this ⊢
      rw [absQ_den]
      exact this
  have HQ := Lib.hid hQ
  obtain ⟨⟨e0, e1, e2, e3⟩, ⟨f0, f1, f2, f3⟩, el⟩ := K2'.out.ext hE4
  have HE9 := Lib.hid (Ext.trans HE.out hE4)
  have HX := Lib.hid (inX_of_ext [] hE4)
  clear hQ hZ hE4
  go_wp2_with fail
  refine And.intro HX.out ?_
  repeat (refine wpLex_still (by rfl) ?_; go_big_quiet_step (exact ⟨rfl, rfl⟩); refine wpQuiet_nil ?_)
  refine wpLex_last (by rfl) (by kernel_rfl) (by rfl) ?_
  go_wp2_with fail
  refine And.intro trivial (wpLex_nil ?_)
  go_wp2_with fail
  refine bodyPost_ret (v := .agg #[.bool r, .slice R k l, .bool t, .slice B m d]) (by simp [results, Try.results22, go_sem, e0, e1, e2, e3]) rfl ?_
  exact ⟨_, _, _, _, _, _, _, _, rfl, retQ_fill (by omega) (by omega) HQ.out HE9.out _ _ _ _⟩
end Go.Proofs.Ytjinpfnefeiooaa
