/- The contract of pylonref26.Schedules. -/
import Derived.Test.YtkkobdfhnkdfgaaRefFeas
import Derived.Test.YtkkobdfhnkdfgaaLawEnum
namespace Go.Proofs.Ytkkobdfhnkdfgaa
open Go.RowKit

set_option maxHeartbeats 2000000 in
theorem rSched_err (u : U) (hz : Int) (A : Option Addr) (n c : Nat) (w : World) (hs : StepsAt w A n u.steps) (hn : n ≤ maxLen) (he : u.schedE hz ≠ 0) :
    Calls Try.prog 12 #[u.val A n c, .int .i64 hz] w fun e w' => e = .returned (.tuple #[.slice none 0 0, .int .i64 (u.schedE hz)]) ∧ Ext w w' := by
  by_cases hc : u.check 6 = 0
  · have hb : (u.check 6 == 0) = true := by simp [hc]
    have h1 : u.schedE hz = 1 := by
      unfold U.schedE at he ⊢
      rw [if_pos hc] at he ⊢
      by_cases h : 0 ≤ hz ∧ hz ≤ 8
      · rw [if_pos h] at he; omega
      · rw [if_neg h]
    have hr : hz < 0 ∨ 8 < hz := by
      unfold U.schedE at he
      rw [if_pos hc] at he
      by_cases h : 0 ≤ hz ∧ hz ≤ 8
      · rw [if_pos h] at he; omega
      · omega
    have H1 := Lib.hid h1
    clear h1 he hc
    rcases hr with hr | hr
    · have hd : decide (hz < 0) = true := decide_eq_true hr
      go_enter Try.func12, Try.ntmps12
      go_wp2_with fail
      refine (rCheck_any u 6 A n c _ (hs.below ((Below.refl _ _).alloc (Nat.le_refl _) _)) hn).mono ?_
      rintro e w1 ⟨rfl, hb1⟩
      go_wp2_with fail
      go_ret2
      exact ⟨ret_se H1.out.symm, Ext.new hb1⟩
    · have hd : decide (hz < 0) = false := by simp; omega
      have hd2 : decide (8 < hz) = true := decide_eq_true hr
      go_enter Try.func12, Try.ntmps12
      go_wp2_with fail
      refine (rCheck_any u 6 A n c _ (hs.below ((Below.refl _ _).alloc (Nat.le_refl _) _)) hn).mono ?_
      rintro e w1 ⟨rfl, hb1⟩
      go_wp2_with fail
      go_ret2
      exact ⟨ret_se H1.out.symm, Ext.new hb1⟩
  · have hb : (u.check 6 == 0) = false := by simp [hc]
    have hb2 : (u.check 6 != 0) = true := by simp [hc]
    have h1 : u.schedE hz = u.check 6 := by unfold U.schedE; rw [if_neg hc]
    have H1 := Lib.hid h1
    clear h1 he hc
    go_enter Try.func12, Try.ntmps12
    go_wp2_with fail
    refine (rCheck_any u 6 A n c _ (hs.below ((Below.refl _ _).alloc (Nat.le_refl _) _)) hn).mono ?_
    rintro e w1 ⟨rfl, hb1⟩
    go_wp2_with fail
    go_ret2
    exact ⟨ret_se H1.out.symm, Ext.new hb1⟩

/-- The headers vals hold the schedules Ls. -/
def KeptRows (w : World) (vals : List Value) (Ls : List (List Bool)) : Prop :=
  vals.length = Ls.length ∧ ∀ j, j < Ls.length → ∃ R m d, vals[j]? = some (.slice R m d) ∧ BoolsAt w R m (Ls.getD j []) ∧ m ≤ maxLen
theorem KeptRows.snoc {w : World} {vals : List Value} {Ls : List (List Bool)} (h : KeptRows w vals Ls) {R : Option Addr} {m d : Nat} {xs : List Bool} (hB : BoolsAt w R m xs) (hm : m ≤ maxLen) : KeptRows w (vals ++ [.slice R m d]) (Ls ++ [xs]) := by
  refine ⟨by simp [h.1], fun j hj => ?_⟩
  rcases Nat.lt_or_ge j Ls.length with hl | hl
  · obtain ⟨R', m', d', h1, h2, h3⟩ := h.2 j hl
    refine ⟨R', m', d', by rw [List.getElem?_append_left (by rw [h.1]; exact hl)]; exact h1, ?_, h3⟩
    have : (Ls ++ [xs]).getD j [] = Ls.getD j [] := by simp [List.getD, List.getElem?_append_left hl]
    rw [this]; exact h2
  · have hjl : j = Ls.length := by simp at hj; omega
    subst hjl
    refine ⟨R, m, d, by rw [List.getElem?_append_right (by rw [h.1]; exact Nat.le_refl _), h.1]; simp, ?_, hm⟩
    have : (Ls ++ [xs]).getD Ls.length [] = xs := by simp [List.getD]
    rw [this]; exact hB
theorem KeptRows.rows {w w' : World} {base : Nat} {v : Value} {vals : List Value} {Ls : List (List Bool)} (h : KeptRows w vals Ls) (hb : Ext w w') (ho : w'.ownsRow base 32 1 v vals.length vals) :
    ∃ A c, v = .slice A Ls.length c ∧ RowsAt w' A Ls.length Ls := by
  rcases ho.2 with ⟨rfl, hn⟩ | ⟨g, cap, cur, rfl, hb', hh, hc1, hc2, hc3, hc4⟩
  · rw [h.1] at hn
    exact ⟨none, 0, by rw [hn], rfl, fun hp => by omega⟩
  · have hl := h.1
    refine ⟨_, cap, by rw [hl], rfl, fun hn => ⟨g, 0, rfl, (own_lt ho rfl).1, fun i hi => ?_⟩⟩
    obtain ⟨R, m, d, h1, h2, h3⟩ := h.2 i hi
    refine ⟨R, m, d, ?_, h2.below hb, h3⟩
    rw [Nat.zero_add, own_cell ho (by rw [hl]; exact hi)]
    exact h1
theorem filter_next {p : List Bool → Bool} {L : List (List Bool)} {i : Nat} (hi : i < L.length) : (L.take (i + 1)).filter p = (L.take i).filter p ++ if p (L.getD i []) then [L.getD i []] else [] := by
  rw [take_snoc L [] hi, List.filter_append]
  by_cases h : p (L.getD i []) = true
  · rw [List.filter_cons, if_pos h, if_pos h]; rfl
  · rw [List.filter_cons, if_neg h, if_neg h]; rfl

set_option maxRecDepth 100000 in
set_option maxHeartbeats 4000000 in
theorem rSched_ok (u : U) (hrs : Nat) (h8 : hrs ≤ 8) (A : Option Addr) (n c : Nat) (w : World) (hs : StepsAt w A n u.steps) (hn : n ≤ maxLen) (hok : u.ok = true) :
    Calls Try.prog 12 #[u.val A n c, .int .i64 hrs] w fun e w' => ∃ A' c', e = .returned (.tuple #[.slice A' (u.exts hrs u.init).length c', .int .i64 0]) ∧ RowsAt w' A' (u.exts hrs u.init).length (u.exts hrs u.init) ∧ Ext w w' := by
  obtain ⟨i1, hi1, hy0, hy1, hy2⟩ := info_parts info_bools
  have hc : u.check 6 = 0 := of_decide_eq_true hok
  have hb : (u.check 6 == 0) = true := by simp [hc]
  have hb2 : (u.check 6 != 0) = false := by simp [hc]
  have HC := Lib.hid hc
  have HOK := Lib.hid hok
  clear hc hok
  have h8b : decide (8 < hrs) = false := by simp; omega
  have HEX := Lib.hid (exts_filter u hrs u.init)
  go_enter Try.func12, Try.ntmps12
  go_wp2_with fail
  refine (rCheck_any u 6 A n c _ (hs.below ((Below.refl _ _).alloc (Nat.le_refl _) _)) hn).mono ?_
  rintro e w1 ⟨rfl, hb1⟩
  have HE1 : Hid (Ext w w1) := Ext.new hb1
  have HU1 := Lib.hid ((ubox w u A n c).ext hb1)
  clear hb1
  go_wp2_with fail
  refine (all_any hrs _ _ rfl h8).mono ?_
  rintro e w2 ⟨AB, cB, rfl, hRB, hb5⟩
  have HE2 : Hid (Ext w w2) := Ext.trans HE1.out hb5
  have HU2 := Lib.hid (HU1.out.ext hb5)
  have HRB := Lib.hid hRB
  clear hb5 hRB HU1 HE1
  have hp2 : 2 ^ hrs ≤ 256 := by
    have : 2 ^ hrs ≤ 2 ^ 8 := Nat.pow_le_pow_right (by omega) h8
    omega
  obtain ⟨N, hN⟩ : ∃ N, 2 ^ hrs = N := ⟨_, rfl⟩
  have HNL : Hid ((bitsL hrs).length = N) := by unfold Hid; rw [bitsL_len, hN]
  rw [hN] at HRB hp2 ⊢
  clear hN
  go_wp2_with fail
  go_loopw [8, 9] (fun v i wr => ∃ (k : Nat) (vals : List Value), k ≤ N ∧ i = .int .i64 k ∧ Hid (wr.ownsRow w2.heap.size 32 1 v vals.length vals) ∧ Hid (KeptRows w2 vals (((bitsL hrs).take k).filter (u.feasFrom u.init))) ∧ Ext w2 wr) (fun _ i _ => N - (intOf i).toNat)
  case atStart => exact ⟨0, [], by omega, rfl, ⟨by simp, .inl ⟨rfl, rfl⟩⟩, ⟨by simp, by simp⟩, Ext.rfl'⟩
  case round =>
    obtain ⟨k, vals, hk, rfl, HOWN, HKR, hbw⟩ := hrel
    by_cases hlt2 : k < N
    · have hbv : decide ((k : Int) < (N : Int)) = true := by simp; omega
      have h01 : (0 : Int) ≤ (k : Int) := by omega
      have h02 : (k : Int) < (N : Int) := by omega
      obtain ⟨g, off, rfl, hgl, hcell⟩ := HRB.out.2 (by omega)
      obtain ⟨R, m, d, c1, hB, hml⟩ := hcell k hlt2
      clear hcell
      have hkl2 : k < (bitsL hrs).length := by rw [HNL.out]; exact hlt2
      have hm8 : m ≤ 1000 := by
        rw [← hB.1]
        have hmem : (bitsL hrs).getD k [] ∈ bitsL hrs := by simp [List.getD, hkl2]
        rw [bitsL_mem hrs _ hmem]
        omega
      have HB := Lib.hid hB
      have HBk := Lib.hid (hB.below hbw)
      have c2 := Ext.cellOf hbw c1
      clear c1 hB
      have HUr := Lib.hid (HU2.out.ext hbw)
      obtain ⟨d0, d1, d2, d3, d4, d5, d6, d7, d8⟩ := HUr.out
      have x0 := fun x : ExtOf wr => x.cell d0
      have x1 := fun x : ExtOf wr => x.cell d1
      have x2 := fun x : ExtOf wr => x.cell d2
      have x3 := fun x : ExtOf wr => x.cell d3
      have x4 := fun x : ExtOf wr => x.cell d4
      have x5 := fun x : ExtOf wr => x.cell d5
      have x6 := fun x : ExtOf wr => x.cell d6
      have x7 := fun x : ExtOf wr => x.cell d7
      have x8 := fun x : ExtOf wr => x.cell d8
      have x9 := fun x : ExtOf wr => x.cell c2
      have HFN := Lib.hid (filter_next (p := u.feasFrom u.init) hkl2)
      have hfe : u.feas ((bitsL hrs).getD k []) = u.feasFrom u.init ((bitsL hrs).getD k []) := by unfold U.feas; rw [HOK.out]; rfl
      have C1 := fun wx (h : Ext wr wx) => rFeasible_any u A n c R m d ((bitsL hrs).getD k []) wx ((hs.below (Ext.trans HE2.out hbw)).below h) hn (HBk.out.below h) hm8 HOK.out
      simp only [hfe] at C1
      clear hfe hkl2
      have hvl : vals.length ≤ 256 := by
        rw [HKR.out.1]
        have h1 := List.length_filter_le (u.feasFrom u.init) ((bitsL hrs).take k)
        have h2 := List.length_take_le' k (bitsL hrs)
        rw [HNL.out] at h2
        omega
      cases hff : u.feasFrom u.init ((bitsL hrs).getD k [])
      · simp only [hff] at C1
        have K1 := Lib.hid C1
        rw [hff] at HFN
        clear C1 hff
        go_wp2_with fail
        refine wp_region_ext (by kernel_rfl) (by kernel_rfl) ?_
        repeat (go_big_quiet_step (exact ext_call (K1.out _ (ExtOf.h _))))
        refine wpQuiet_nil ?_
        rintro _ ⟨x, rfl⟩
        clear x0 x1 x2 x3 x4 x5 x6 x7 x8 x9
        go_wp2_with fail
        go_roundw
        case rel => exact ⟨k + 1, vals, by omega, by go_num, own_keep HOWN.out fun g hg => x.h.block g (own_lt HOWN.out hg).1, by rw [HFN.out]; simpa [Hid] using HKR.out, Ext.trans hbw x.h⟩
        case measure => simp [intOf]; omega
      · simp only [hff] at C1
        have K1 := Lib.hid C1
        rw [hff] at HFN
        clear C1 hff
        go_wp2_with fail
        refine wp_region_ext (by kernel_rfl) (by kernel_rfl) ?_
        repeat (go_big_quiet_step (exact ext_call (K1.out _ (ExtOf.h _))))
        refine wpQuiet_nil ?_
        rintro _ ⟨x, rfl⟩
        have hx := x.h
        clear x0 x1 x2 x3 x4 x5 x6 x7 x8 x9 d0 d1 d2 d3 d4 d5 d6 d7 d8
        generalize x.w = w6 at *
        have e2 := Ext.cellOf hx c2
        have HO6 := Lib.hid (own_keep (w' := w6.alloc (.cells #[.slice R m d] 32)) HOWN.out fun g hg => (Below.heap_alloc w6 _ g (by have := (own_lt HOWN.out hg).1; have := hx.size; omega)).trans (hx.block g (own_lt HOWN.out hg).1))
        have hz6 : w2.heap.size ≤ w6.heap.size := (Ext.trans hbw hx).size
        go_wp2_with (at_builtin
                     refine wpList_append_at _ rfl (.tmp 39) (.tmp 44) 27 rfl w2.heap.size 32 i1 _ 1 24 Try.underlying27 hi1 hy0 hy1 hy2 rfl (by omega) _ vals.length vals rfl HO6.out
                       ⟨w6.heap.size, 0, none⟩ 1 1 [.slice R m d] rfl rfl (World.news_of_block (cs := #[.slice R m d]) (t := 32) (fr := (0, 0)) (heap_alloc_new w6 _)) (by simp [Value.oneCell']) (.inr (by omega)) (by simp [maxLen]; omega) (by omega) (by simp; omega) ?_
                     intro g2 cap2 w3 hown2 hgrow2 hat2
                     have HX2 := Lib.hid hown2
                     have HG2 := Lib.hid hgrow2
                     clear hown2 hgrow2 hat2)
        go_roundw
        case rel =>
          refine ⟨k + 1, vals ++ [.slice R m d], by omega, by go_num, by simpa [Hid] using HX2.out, by rw [HFN.out]; exact HKR.out.snoc HB.out hml, ?_⟩
          exact ext_grown (Ext.trans (Ext.trans hbw hx) (Ext.new1 w6 _)) HG2.out (by intro k2 hk2; exact (own_lt HOWN.out hk2).2)
        case measure => simp [intOf]; omega
    · have hbv : decide ((k : Int) < (N : Int)) = false := by simp; omega
      have hfin := HKR.out
      rw [List.take_of_length_le (by rw [HNL.out]; omega), ← HEX.out] at hfin
      obtain ⟨A', c', hv', hR'⟩ := hfin.rows hbw HOWN.out
      subst hv'
      have HR' := Lib.hid hR'
      clear hR' hfin
      go_wp2_with fail
      go_ret2
      exact ⟨A', c', rfl, HR'.out, Ext.trans HE2.out hbw⟩
end Go.Proofs.Ytkkobdfhnkdfgaa
