/- UnitSchedulesMatch: the walk: for every unit and every number of hours the law answers true. -/
import Derived.Test.YtkkobdfhnkdfgaaRefSched
namespace Go.Proofs.Ytkkobdfhnkdfgaa
open Go.RowKit

/-- The value holds N slices of hrs bools each, all in memory of the call's own. -/
def Shape (w : World) (B hrs : Nat) (vA : Value) (N : Nat) : Prop :=
  ∃ FC : List (Nat × Nat), w.ownsRow B 32 1 vA N (FC.map (hdr hrs)) ∧ FC.length = N ∧
    ∀ p ∈ FC, ∃ xs : List Bool, w.ownsRow B 4 1 (hdr hrs p) hrs (xs.map Value.bool)
theorem Lists.shape {w : World} {B hrs : Nat} {vA : Value} {L : List (List Bool)} (h : Lists w B hrs vA L) : Shape w B hrs vA L.length := by
  obtain ⟨FC, h1, _, h3, h4⟩ := h
  refine ⟨FC, h1, h3, fun p hp => ?_⟩
  obtain ⟨i, hi, rfl⟩ := List.getElem_of_mem hp
  obtain ⟨xs, _, h5⟩ := h4 i _ (List.getElem?_eq_getElem hi)
  exact ⟨xs, h5⟩
theorem Shape.keep {w w' : World} {B hrs : Nat} {vA : Value} {N : Nat} (h : Shape w B hrs vA N) (hb : Ext w w') : Shape w' B hrs vA N := by
  obtain ⟨FC, h1, h3, h4⟩ := h
  refine ⟨FC, own_keep h1 fun g hg => hb.block g (own_lt h1 hg).1, h3, fun p hp => ?_⟩
  obtain ⟨xs, h5⟩ := h4 p hp
  exact ⟨xs, own_keep h5 fun g hg => hb.block g (own_lt h5 hg).1⟩
theorem Shape.at_ {w : World} {B hrs N c : Nat} {A : Option Addr} (h : Shape w B hrs (.slice A N c) N) {i : Nat} (hi : i < N) :
    ∃ g p xs, A = some ⟨g, 0, none⟩ ∧ w.cell? ⟨g, i, none⟩ = some (hdr hrs p) ∧ BoolsAt w (some ⟨p.1, 0, none⟩) hrs xs ∧ B ≤ p.1 ∧ p.1 < w.heap.size ∧ (∀ k, w.frozen? ⟨p.1, k, none⟩ = false) ∧ g < w.heap.size ∧
      ∀ b k, Shape (w.setCell ⟨p.1, k, none⟩ (.bool b)) B hrs (.slice A N c) N := by
  obtain ⟨FC, h1, h3, h4⟩ := h
  rcases h1.2 with ⟨hv, _⟩ | ⟨g, cap, cur, hv, hb, hh, hc1, hc2, hc3, hc4⟩
  · injection hv with e1 e2; omega
  · injection hv with e1 e2 e3
    subst e1
    have hif : i < FC.length := by omega
    obtain ⟨xs, h5⟩ := h4 FC[i] (List.getElem_mem hif)
    refine ⟨g, FC[i], xs, rfl, ?_, own_bools h5, (own_lt h5 rfl).2, (own_lt h5 rfl).1, h5.frozenAt, (own_lt h1 rfl).1, fun b k => ?_⟩
    · rw [own_cell h1 hi]; simp [hif]
    · refine ⟨FC, own_keep h1 fun g' hg' => Below.heap_setCell w _ _ g' ?_, h3, fun p hp => ?_⟩
      · intro e
        have := own_ne_own h5 h1 (by decide) (g := FC[i].1) rfl
        rw [hg'] at this
        exact this (by rw [e])
      · obtain ⟨ys, h6⟩ := h4 p hp
        by_cases hpe : p.1 = FC[i].1
        · have h7 := (h6.stored k (.bool b)).1
          rw [hpe] at h7
          refine ⟨ys.set k b, ?_⟩
          have e : hdr hrs p = .slice (some ⟨FC[i].1, 0, none⟩) hrs p.2 := by rw [← hpe]
          rw [e, List.map_set]
          exact h7
        · exact ⟨ys, own_keep h6 fun g' hg' => Below.heap_setCell w _ _ g' (by
            have : p.1 = g' := by simpa [Value.ownBlock] using hg'
            rw [← this]; exact hpe)⟩

/-- What Schedules lists. -/
def U.schedL (u : U) (hz : Int) : List (List Bool) := if u.schedE hz = 0 then u.exts hz.toNat u.init else []
theorem schedE_ok {u : U} {hz : Int} (h : u.schedE hz = 0) : u.ok = true ∧ 0 ≤ hz ∧ hz ≤ 8 := by
  unfold U.schedE at h
  by_cases hc : u.check 6 = 0
  · rw [if_pos hc] at h
    by_cases hr : 0 ≤ hz ∧ hz ≤ 8
    · exact ⟨decide_eq_true hc, hr⟩
    · rw [if_neg hr] at h; omega
  · rw [if_neg hc] at h; exact absurd h hc
theorem sched_uni (u : U) (hz : Int) (A : Option Addr) (n c : Nat) (w : World) (hs : StepsAt w A n u.steps) (hn : n ≤ maxLen) :
    Calls Try.prog 13 #[u.val A n c, .int .i64 hz] w fun e w' => ∃ vA hrs, hrs ≤ 8 ∧ e = .returned (.tuple #[vA, .int .i64 (u.schedE hz)]) ∧ Lists w' w.heap.size hrs vA (u.schedL hz) ∧ Ext w w' := by
  by_cases he : u.schedE hz = 0
  · obtain ⟨hok, h0, h8⟩ := schedE_ok he
    obtain ⟨hrs, rfl⟩ : ∃ k : Nat, hz = k := ⟨hz.toNat, by omega⟩
    refine (sched_ok u hrs (by omega) A n c w hs hn hok).mono ?_
    rintro e w' ⟨vA, rfl, hL, hb⟩
    refine ⟨vA, hrs, by omega, by rw [he], ?_, hb⟩
    unfold U.schedL
    rw [if_pos he, Int.toNat_natCast]
    exact hL
  · refine (sched_err u hz A n c w hs hn he).mono ?_
    rintro e w' ⟨rfl, hb⟩
    refine ⟨_, 0, by omega, rfl, ?_, hb⟩
    unfold U.schedL
    rw [if_neg he]
    exact ⟨[], ⟨by simp, .inl ⟨rfl, rfl⟩⟩, by simp, rfl, by simp⟩
theorem rSched_uni (u : U) (hz : Int) (A : Option Addr) (n c : Nat) (w : World) (hs : StepsAt w A n u.steps) (hn : n ≤ maxLen) :
    Calls Try.prog 12 #[u.val A n c, .int .i64 hz] w fun e w' => ∃ A' c', e = .returned (.tuple #[.slice A' (u.schedL hz).length c', .int .i64 (u.schedE hz)]) ∧ RowsAt w' A' (u.schedL hz).length (u.schedL hz) ∧ Ext w w' := by
  by_cases he : u.schedE hz = 0
  · obtain ⟨hok, h0, h8⟩ := schedE_ok he
    obtain ⟨hrs, rfl⟩ : ∃ k : Nat, hz = k := ⟨hz.toNat, by omega⟩
    refine (rSched_ok u hrs (by omega) A n c w hs hn hok).mono ?_
    rintro e w' ⟨A', c', rfl, hL, hb⟩
    have hl : u.schedL hrs = u.exts hrs u.init := by unfold U.schedL; rw [if_pos he, Int.toNat_natCast]
    rw [hl]
    exact ⟨A', c', by rw [he], hL, hb⟩
  · refine (rSched_err u hz A n c w hs hn he).mono ?_
    rintro e w' ⟨rfl, hb⟩
    have hl : u.schedL hz = [] := by unfold U.schedL; rw [if_neg he]
    rw [hl]
    exact ⟨none, 0, rfl, ⟨rfl, fun h => by simp at h⟩, hb⟩
theorem schedL_len (u : U) (hz : Int) : (u.schedL hz).length ≤ 256 := by
  unfold U.schedL
  by_cases he : u.schedE hz = 0
  · rw [if_pos he]
    obtain ⟨_, h0, h8⟩ := schedE_ok he
    have h1 := exts_len u hz.toNat u.init
    have h2 : 2 ^ hz.toNat ≤ 2 ^ 8 := Nat.pow_le_pow_right (by omega) (by omega)
    omega
  · rw [if_neg he]; simp
theorem ext_put {w0 w : World} (h : Ext w0 w) {p : Addr} (hp : w0.heap.size ≤ p.block) (v : Value) : Ext w0 (w.setCell p v) := Below.setCell h hp v

set_option maxRecDepth 100000 in
set_option maxHeartbeats 8000000 in
theorem match_any (u : U) (A : Option Addr) (n c : Nat) (hz : Int) (w : World) (hs : StepsAt w A n u.steps) (hn : n ≤ maxLen) :
    Calls Try.prog 3 #[u.val A n c, .int .i64 hz] w fun e w' => e = .returned (.bool true) ∧ Ext w w' := by
  go_enter Try.func3, Try.ntmps3
  go_wp2_with fail
  refine (long_any u A n c none 0 0 _).mono ?_
  rintro e w01 ⟨rfl, hb1⟩
  have HE1 : Hid (Ext w w01) := Ext.new hb1
  have HU1 := Lib.hid ((ubox w u A n c).ext hb1)
  rcases hlong : longB n 0 with _ | _
  rotate_left
  · clear hlong hb1
    go_wp2_with fail
    refine (awake_any _).mono ?_
    rintro e w3 ⟨rfl, hb3⟩
    go_wp2_with fail
    go_ret
    exact ⟨rfl, Ext.trans HE1.out hb3⟩
  clear hlong hb1
  obtain ⟨d0, d1, d2, d3, d4, d5, d6, d7, d8⟩ := HU1.out
  go_wp2_with fail
  refine (rSched_uni u hz A n c _ (hs.below HE1.out) hn).mono ?_
  rintro e w2 ⟨AW, cW, rfl, hRW, hb2⟩
  have HE2 : Hid (Ext w w2) := Ext.trans HE1.out hb2
  have HU2 := Lib.hid (HU1.out.ext hb2)
  have HRW := Lib.hid hRW
  have hN6 := schedL_len u hz
  have hne : (u.schedE hz != u.schedE hz) = false := by simp
  clear d0 d1 d2 d3 d4 d5 d6 d7 d8 hb2 hRW HU1 HE1
  obtain ⟨N, hN⟩ : ∃ N, (u.schedL hz).length = N := ⟨_, rfl⟩
  rw [hN] at HRW hN6 ⊢
  have HN := Lib.hid hN
  clear hN
  go_wp2_with fail
  go_loopw [7] (fun i wr => ∃ k : Nat, k ≤ 2 ∧ i = .int .i64 k ∧ Ext w2 wr) (fun i _ => 2 - (intOf i).toNat)
  case atStart => exact ⟨0, by omega, rfl, Ext.rfl'⟩
  case round =>
    obtain ⟨k, hk, rfl, hbw⟩ := hrel
    by_cases hk2 : k < 2
    · have hbv : decide ((k : Int) < 2) = true := by simp; omega
      have HUr := Lib.hid (HU2.out.ext hbw)
      obtain ⟨d0, d1, d2, d3, d4, d5, d6, d7, d8⟩ := HUr.out
      have hszr : w.heap.size < wr.heap.size := World.block_lt_of_cell? _ _ d0
      go_wp2_with fail
      refine (sched_uni u hz A n c _ (hs.below (Ext.trans HE2.out hbw)) hn).mono ?_
      rintro e w3 ⟨vA, hrs, h8, rfl, hL, hb3⟩
      obtain ⟨AL, cL, rfl, hRL⟩ := hL.rows h8
      have HSH := Lib.hid hL.shape
      have HRL := Lib.hid hRL
      rw [HN.out] at HSH HRL ⊢
      clear hL hRL d0 d1 d2 d3 d4 d5 d6 d7 d8
      go_wp2_with fail
      have C2 := sameAll_any AL N cL (u.schedL hz) AW N cW (u.schedL hz) w3 HRL.out (HRW.out.below (Ext.trans hbw hb3)) (by simp [maxLen]; omega)
      simp only [decide_true] at C2
      refine C2.mono ?_
      clear C2
      rintro e w4 ⟨rfl, hb4⟩
      have HSH4 := Lib.hid (HSH.out.keep hb4)
      have HE4 : Hid (Ext wr w4) := Ext.trans hb3 hb4
      clear HSH HRL hb3 hb4
      go_wp2_with fail
      obtain ⟨wo, hwo⟩ : ∃ wo : World, wo = wr := ⟨_, rfl⟩
      subst hwo
      go_loopw [10] (fun i wr => ∃ j : Nat, j ≤ N ∧ i = .int .i64 j ∧ Hid (Shape wr wo.heap.size hrs (.slice AL N cL) N) ∧ Ext wo wr) (fun i _ => N - (intOf i).toNat)
      case atStart => exact ⟨0, by omega, rfl, HSH4, HE4.out⟩
      case round =>
        obtain ⟨j, hj, rfl, HSJ, hbj⟩ := hrel
        by_cases hj2 : j < N
        · have hbv2 : decide ((j : Int) < (N : Int)) = true := by simp; omega
          go_wp2_with fail
          obtain ⟨wj, hwj⟩ : ∃ wj : World, wj = wr := ⟨_, rfl⟩
          subst hwj
          go_loopw [11] (fun i wr => ∃ l : Nat, l ≤ hrs ∧ i = .int .i64 l ∧ Hid (Shape wr wo.heap.size hrs (.slice AL N cL) N) ∧ Ext wo wr) (fun i _ => hrs - (intOf i).toNat)
          case atStart => exact ⟨0, by omega, rfl, HSJ, hbj⟩
          case round =>
            obtain ⟨l, hl, rfl, HSL, hbl⟩ := hrel
            obtain ⟨g, p, xs, rfl, c1, hB, hp1, hp2, hfr, hgl, hput⟩ := HSL.out.at_ hj2
            have HPUT := Lib.hid hput
            have h01 : (0 : Int) ≤ (j : Int) := by omega
            have h02 : (j : Int) < (N : Int) := by omega
            by_cases hl2 : l < hrs
            · obtain ⟨b, off, hbe, hbl2, hc⟩ := hB.2 (by omega)
              injection hbe with hbe
              injection hbe with hb1 hb2
              have c2 := hc l hl2
              rw [← hb1, ← hb2, Nat.zero_add] at c2
              have c3 := hfr l
              clear hc hfr hb1 hb2 hput hbl2 hB
              generalize xs.getD l false = x at *
              have hbv3 : decide ((l : Int) < (hrs : Int)) = true := by simp; omega
              have h03 : (0 : Int) ≤ (l : Int) := by omega
              have h04 : (l : Int) < (hrs : Int) := by omega
              go_wp2_with fail
              go_region
              go_wp2_with fail
              go_roundw
              case rel => exact ⟨l + 1, by omega, by go_num, HPUT.out (!x) l, (ext_put (p := ⟨p.1, l, none⟩) hbl hp1 _).drew⟩
              case measure => simp [intOf]; omega
            · have hbv3 : decide ((l : Int) < (hrs : Int)) = false := by simp; omega
              clear hfr hput hB
              go_wp2_with fail
              go_roundw
              case rel => exact ⟨j + 1, by omega, by go_num, HSL, hbl⟩
              case measure => simp [intOf]; omega
        · have hbv2 : decide ((j : Int) < (N : Int)) = false := by simp; omega
          go_wp2_with fail
          go_roundw
          case rel => exact ⟨k + 1, by omega, by go_num, Ext.trans hbw hbj⟩
          case measure => simp [intOf]; omega
    · have hbv : decide ((k : Int) < 2) = false := by simp; omega
      go_wp2_with fail
      refine (awake_any _).mono ?_
      rintro e w3 ⟨rfl, hb3⟩
      go_wp2_with fail
      go_ret
      exact ⟨rfl, Ext.trans HE2.out (Ext.trans hbw hb3)⟩
end Go.Proofs.Ytkkobdfhnkdfgaa
