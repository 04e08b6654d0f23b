/- UnitEnumeration: the walk: for every unit and every byte the law answers true. -/
import Derived.Test.YtkkobdfhnkdfgaaAllB
namespace Go.Proofs.Ytkkobdfhnkdfgaa
open Go.RowKit

theorem filter_map_cons (u : U) (s : Int) (b : Bool) : ∀ L : List (List Bool), (L.map (b :: ·)).filter (u.feasFrom s) = if u.next s b = 0 then [] else (L.filter (u.feasFrom (u.next s b))).map (b :: ·)
  | [] => by simp
  | x :: L => by
    have ih := filter_map_cons u s b L
    rw [List.map_cons, List.filter_cons, ih]
    have e : u.feasFrom s (b :: x) = if u.next s b = 0 then false else u.feasFrom (u.next s b) x := rfl
    rw [e]
    by_cases h : u.next s b = 0
    · simp [h]
    · simp only [if_neg h, List.filter_cons]
      split <;> simp_all
theorem exts_filter (u : U) : ∀ (n : Nat) (s : Int), u.exts n s = (bitsL n).filter (u.feasFrom s)
  | 0, _ => rfl
  | n + 1, s => by
    rw [U.exts, bitsL, List.filter_append, filter_map_cons, filter_map_cons, exts_filter u n, exts_filter u n]
theorem exts_ne {u : U} (g : u.Good) : ∀ (n : Nat) (s : Int), u.isState s = true → 1 ≤ (u.exts n s).length
  | 0, _, _ => by simp [U.exts]
  | n + 1, s, hs => by
    have h : u.next s (decide (0 < s)) ≠ 0 := by
      obtain ⟨⟩ := g
      simp only [U.isState, Bool.and_eq_true, decide_eq_true_eq] at hs
      by_cases h : 0 < s
      · have e : u.next s true = min (s + 1) u.up := by unfold U.next; simp [h]
        rw [decide_eq_true h, e]; omega
      · have e : u.next s false = max (s - 1) (-u.down) := by
          have : s < 0 := by omega
          unfold U.next; simp [this]
        rw [decide_eq_false h, e]; omega
    have ih := exts_ne g n _ (U.next_state g hs h)
    rw [U.exts, List.length_append]
    by_cases hp : 0 < s
    · rw [decide_eq_true hp] at h ih
      rw [if_neg h, List.length_map]
      omega
    · rw [decide_eq_false hp] at h ih
      rw [if_neg h, List.length_map]
      omega
/-- How many of the first i are kept. -/
def kept (p : List Bool → Bool) (L : List (List Bool)) (i : Nat) : Nat := ((L.take i).filter p).length
theorem kept_next {p : List Bool → Bool} {L : List (List Bool)} {i : Nat} (hi : i < L.length) : kept p L (i + 1) = kept p L i + if p (L.getD i []) then 1 else 0 := by
  unfold kept
  rw [take_snoc L [] hi, List.filter_append, List.length_append]
  by_cases h : p (L.getD i []) = true
  · rw [List.filter_cons, if_pos h, if_pos h]; rfl
  · rw [List.filter_cons, if_neg h, if_neg h]; rfl
theorem kept_at {p : List Bool → Bool} {L : List (List Bool)} {i : Nat} (hi : i < L.length) (hp : p (L.getD i []) = true) : kept p L i < (L.filter p).length ∧ (L.filter p).getD (kept p L i) [] = L.getD i [] := by
  have hg : L.getD i [] = L[i] := by simp [List.getD, hi]
  rw [hg] at hp ⊢
  have e : L = L.take i ++ L[i] :: L.drop (i + 1) := by rw [← List.drop_eq_getElem_cons hi, List.take_append_drop]
  have e2 : L.filter p = (L.take i).filter p ++ L[i] :: (L.drop (i + 1)).filter p := by
    conv => lhs; rw [e]
    rw [List.filter_append, List.filter_cons, if_pos hp]
  unfold kept
  refine ⟨by rw [e2]; simp, ?_⟩
  rw [e2]
  simp [List.getD]
theorem kept_all {p : List Bool → Bool} {L : List (List Bool)} : kept p L L.length = (L.filter p).length := by unfold kept; rw [List.take_of_length_le (Nat.le_refl _)]
theorem kept_le {p : List Bool → Bool} {L : List (List Bool)} (i : Nat) : kept p L i ≤ L.length := by
  unfold kept
  have h1 := List.length_filter_le p (L.take i)
  have h2 := List.length_take_le' i L
  omega

set_option maxRecDepth 100000 in
set_option maxHeartbeats 8000000 in
theorem enum_any (u : U) (A : Option Addr) (n c : Nat) (z : Int) (w : World) (hs : StepsAt w A n u.steps) (hn : n ≤ maxLen) (hz0 : 0 ≤ z) (hz1 : z ≤ 255) :
    Calls Try.prog 7 #[u.val A n c, .int .u8 z] w fun e w' => e = .returned (.bool true) ∧ Ext w w' := by
  obtain ⟨zn, rfl⟩ : ∃ zn : Nat, z = zn := ⟨z.toNat, by omega⟩
  go_enter Try.func7, Try.ntmps7
  go_wp2_with fail
  refine (long_any u A n c none 0 0 _).mono ?_
  rintro e w01 ⟨rfl, hb1⟩
  have HE1 : Hid (Ext w w01) := Ext.new hb1
  have HU1 := Lib.hid ((ubox w u A n c).ext hb1)
  rcases hlong : longB n 0 with _ | _
  rotate_left
  · clear hlong hb1
    go_wp2_with fail
    refine (awake_any _).mono ?_
    rintro e w3 ⟨rfl, hb3⟩
    go_wp2_with fail
    go_ret
    exact ⟨rfl, Ext.trans HE1.out hb3⟩
  have hm1 : 0 ≤ 100 := by simp [longB] at hlong; omega
  clear hlong hb1
  obtain ⟨d0, d1, d2, d3, d4, d5, d6, d7, d8⟩ := HU1.out
  go_wp2_with fail
  refine (may_any u A n c _ (hs.below HE1.out) hn).mono ?_
  rintro e w2 ⟨rfl, hb2⟩
  have HE2 : Hid (Ext w w2) := Ext.trans HE1.out hb2
  have HU2 := Lib.hid (HU1.out.ext hb2)
  clear d0 d1 d2 d3 d4 d5 d6 d7 d8 hb2
  rcases hok : u.ok with _ | _
  · clear hok
    go_wp2_with fail
    refine (awake_any _).mono ?_
    rintro e w3 ⟨rfl, hb3⟩
    go_wp2_with fail
    go_ret
    exact ⟨rfl, Ext.trans HE2.out hb3⟩
  have HOK := Lib.hid hok
  clear hok
  go_wp2_with fail
  refine (awake_any _).mono ?_
  rintro e w3 ⟨rfl, hb3⟩
  have HE3 : Hid (Ext w w3) := Ext.trans HE2.out hb3
  have HU3 := Lib.hid (HU2.out.ext hb3)
  have G := U.good HOK.out
  clear hb3 HU1 HU2 HE1 HE2
  have hlt : w.heap.size < w3.heap.size := World.block_lt_of_cell? _ _ HU3.out.1
  obtain ⟨d0, d1, d2, d3, d4, d5, d6, d7, d8⟩ := HU3.out
  go_wp2_with fail
  rw [show ((zn : Int) % 9) = ((zn % 9 : Nat) : Int) from by omega]
  have hp8 : zn % 9 ≤ 8 := by omega
  generalize zn % 9 = hrs at *
  clear d0 d1 d2 d3 d4 d5 d6 d7 d8
  refine (sched_ok u hrs hp8 A n c _ (hs.below HE3.out) hn HOK.out).mono ?_
  rintro e w4 ⟨vA, rfl, hL, hb4⟩
  obtain ⟨AL, cL, rfl, hRL⟩ := hL.rows hp8
  have HE4 : Hid (Ext w w4) := Ext.trans HE3.out hb4
  have HU4 := Lib.hid (HU3.out.ext hb4)
  have HRL := Lib.hid hRL
  have hne := exts_ne G hrs u.init (U.init_state G)
  have hle := exts_len u hrs u.init
  have hp2 : 2 ^ hrs ≤ 256 := by
    have : 2 ^ hrs ≤ 2 ^ 8 := Nat.pow_le_pow_right (by omega) hp8
    omega
  have HEX := Lib.hid (exts_filter u hrs u.init)
  clear hL hb4 HE3 HU3 hRL
  generalize hLe : u.exts hrs u.init = L at *
  obtain ⟨M, hM⟩ : ∃ M, L.length = M := ⟨_, rfl⟩
  rw [hM] at hne hle HRL ⊢
  have HM := Lib.hid hM
  clear hM hLe
  have hm0 : ((M : Int) == 0) = false := by simp; omega
  go_wp2_with fail
  refine (allX_any hrs _ hp8).mono ?_
  rintro e w5 ⟨AB, cB, rfl, hRB, hb5⟩
  have HE5 : Hid (Ext w w5) := Ext.trans HE4.out hb5
  have HU5 := Lib.hid (HU4.out.ext hb5)
  have HRL5 := Lib.hid (HRL.out.below hb5)
  have HRB := Lib.hid hRB
  clear hb5 hRB HE4 HU4 HRL
  obtain ⟨N, hN⟩ : ∃ N, 2 ^ hrs = N := ⟨_, rfl⟩
  have HNL : Hid ((bitsL hrs).length = N) := by unfold Hid; rw [bitsL_len, hN]
  rw [hN] at HRB hp2 hle ⊢
  clear hN
  have HEL : Hid (M = ((bitsL hrs).filter (u.feasFrom u.init)).length) := by unfold Hid; rw [← HM.out, HEX.out]
  go_wp2_with fail
  go_loopw [9, 10] (fun a i wr => ∃ k : Nat, k ≤ N ∧ i = .int .i64 k ∧ a = .int .i64 (kept (u.feasFrom u.init) (bitsL hrs) k) ∧ Ext w5 wr) (fun _ i _ => N - (intOf i).toNat)
  case atStart => exact ⟨0, by omega, rfl, by simp [kept], Ext.rfl'⟩
  case round =>
    obtain ⟨k, hk, rfl, rfl, hbw⟩ := hrel
    have hkl := kept_le (p := u.feasFrom u.init) (L := bitsL hrs) k
    rw [HNL.out] at hkl
    by_cases hlt2 : k < N
    · have hbv : decide ((k : Int) < (N : Int)) = true := by simp; omega
      have h01 : (0 : Int) ≤ (k : Int) := by omega
      have h02 : (k : Int) < (N : Int) := by omega
      obtain ⟨g, off, rfl, hgl, hcell⟩ := HRB.out.2 (by omega)
      obtain ⟨R, m, d, c1, hB, hml⟩ := hcell k hlt2
      clear hcell
      have HBk := Lib.hid (hB.below hbw)
      have c2 := Ext.cellOf hbw c1
      clear c1 hB
      have HUr := Lib.hid (HU5.out.ext hbw)
      obtain ⟨d0, d1, d2, d3, d4, d5, d6, d7, d8⟩ := HUr.out
      have x0 := fun x : ExtOf wr => x.cell d0
      have x1 := fun x : ExtOf wr => x.cell d1
      have x2 := fun x : ExtOf wr => x.cell d2
      have x3 := fun x : ExtOf wr => x.cell d3
      have x4 := fun x : ExtOf wr => x.cell d4
      have x5 := fun x : ExtOf wr => x.cell d5
      have x6 := fun x : ExtOf wr => x.cell d6
      have x7 := fun x : ExtOf wr => x.cell d7
      have x8 := fun x : ExtOf wr => x.cell d8
      have x9 := fun x : ExtOf wr => x.cell c2
      have hkl2 : k < (bitsL hrs).length := by rw [HNL.out]; exact hlt2
      have HKN := Lib.hid (kept_next (p := u.feasFrom u.init) hkl2)
      have HKA := Lib.hid (fun h => kept_at (p := u.feasFrom u.init) hkl2 h)
      have hfe : u.feas ((bitsL hrs).getD k []) = u.feasFrom u.init ((bitsL hrs).getD k []) := by unfold U.feas; rw [HOK.out]; rfl
      have C1 := fun wx (h : Ext wr wx) => feasible_any u A n c R m d ((bitsL hrs).getD k []) wx ((hs.below (Ext.trans HE5.out hbw)).below h) hn (HBk.out.below h) hml
      simp only [hfe] at C1
      clear hfe hkl2
      cases hff : u.feasFrom u.init ((bitsL hrs).getD k [])
      · simp only [hff] at C1
        have K1 := Lib.hid C1
        rw [hff] at HKN
        have HFF := Lib.hid hff
        clear C1 hff
        go_wp2_with fail
        refine wp_region_ext (by kernel_rfl) (by kernel_rfl) ?_
        repeat (go_big_quiet_step (exact ext_call (K1.out _ (ExtOf.h _))))
        refine wpQuiet_nil ?_
        rintro _ ⟨x, rfl⟩
        clear x0 x1 x2 x3 x4 x5 x6 x7 x8 x9
        go_wp2_with fail
        go_roundw
        case rel => exact ⟨k + 1, by omega, by go_num, by rw [HKN.out]; simp, Ext.trans hbw x.h⟩
        case measure => simp [intOf]; omega
      · simp only [hff] at C1
        have K1 := Lib.hid C1
        have hka := HKA.out hff
        rw [hff] at HKN
        clear C1 hff
        rw [← HEL.out] at hka
        obtain ⟨hka1, hka2⟩ := hka
        rw [← HEX.out] at hka2
        have HK2 := Lib.hid hka2
        clear hka2
        generalize kept (u.feasFrom u.init) (bitsL hrs) k = a at *
        go_wp2_with fail
        refine wp_region_ext (by kernel_rfl) (by kernel_rfl) ?_
        repeat (go_big_quiet_step (exact ext_call (K1.out _ (ExtOf.h _))))
        refine wpQuiet_nil ?_
        rintro _ ⟨x, rfl⟩
        have hx := x.h
        clear x0 x1 x2 x3 x4 x5 x6 x7 x8 x9 d0 d1 d2 d3 d4 d5 d6 d7 d8
        generalize x.w = w6 at *
        obtain ⟨gl, offl, rfl, hgll, hcl⟩ := HRL5.out.2 (by omega)
        obtain ⟨R2, m2, dd2, e1, hB2, hml2⟩ := hcl a hka1
        clear hcl
        have e2 := Ext.cellOf (Ext.trans hbw hx) e1
        have e3 := Ext.cellOf hx c2
        have C2 := fun wx (h : Ext w6 wx) => same_any R2 m2 dd2 (L.getD a []) R m d ((bitsL hrs).getD k []) wx ((hB2.below (Ext.trans hbw hx)).below h) ((HBk.out.below hx).below h) hml2
        rw [HK2.out] at C2
        simp only [decide_true] at C2
        have K2 := Lib.hid C2
        clear C2 e1 hB2
        have x1 := fun x : ExtOf w6 => x.cell e2
        have x2 := fun x : ExtOf w6 => x.cell e3
        have h03 : (0 : Int) ≤ (a : Int) := by omega
        have h04 : (a : Int) < (M : Int) := by omega
        have h05 : decide ((M : Int) ≤ (a : Int)) = false := by simp; omega
        have h06 : decide (M ≤ a) = false := by simp; omega
        go_wp2_with fail
        refine wp_region_ext (by kernel_rfl) (by kernel_rfl) ?_
        repeat (go_big_quiet_step (exact ext_call (K2.out _ (ExtOf.h _))))
        refine wpQuiet_nil ?_
        rintro _ ⟨y, rfl⟩
        clear x1 x2
        go_wp2_with fail
        go_roundw
        case rel => exact ⟨k + 1, by omega, by go_num, by rw [HKN.out]; simp, Ext.trans hbw (Ext.trans hx y.h)⟩
        case measure => simp [intOf]; omega
    · have hbv : decide ((k : Int) < (N : Int)) = false := by simp; omega
      have HKM : Hid (kept (u.feasFrom u.init) (bitsL hrs) k = M) := by
        unfold Hid
        rw [HEL.out, ← kept_all, HNL.out]
        congr 1
        omega
      rw [HKM.out]
      go_wp2_with fail
      go_ret
      exact ⟨by simp, Ext.trans HE5.out hbw⟩
end Go.Proofs.Ytkkobdfhnkdfgaa
