/- UnitConcatenation: the walk: for every unit and every two schedules the law answers true. -/
import Derived.Test.YtkkobdfhnkdfgaaSetOn
namespace Go.Proofs.Ytkkobdfhnkdfgaa
open Go.RowKit

theorem nextG_eqC {u : U} (h : u.ok = true) {s : Int} (hs : u.isState s = true) (on : Bool) : u.nextG s on = u.next s on := by unfold U.nextG; rw [h, hs]; rfl
theorem UAt.putC {w : World} {b : Nat} {u : U} {A : Option Addr} {n c : Nat} (h : UAt w b u A n c) (z : Int) : UAt (w.setCell ⟨b, 8, none⟩ (.int .i64 z)) b (u.setOn z) A n c := by
  obtain ⟨h0, h1, h2, h3, h4, h5, h6, h7, h8⟩ := h
  refine ⟨?_, ?_, ?_, ?_, ?_, ?_, ?_, ?_, ?_⟩
  all_goals first
    | (rw [World.cell?_setCell_other _ _ _ _ (by simp)]; assumption)
    | (simp [go_sem, h8, U.setOn])
theorem UAt.farC {w : World} {b b' i : Nat} {u : U} {A : Option Addr} {n c : Nat} {x : Value} (h : UAt w b u A n c) (hne : b ≠ b') : UAt (w.setCell ⟨b', i, none⟩ x) b u A n c := by
  obtain ⟨h0, h1, h2, h3, h4, h5, h6, h7, h8⟩ := h
  refine ⟨?_, ?_, ?_, ?_, ?_, ?_, ?_, ?_, ?_⟩
  all_goals (rw [World.cell?_setCell_other _ _ _ _ (fun e => hne (congrArg Addr.block e).symm)]; assumption)
theorem wrap_in {z : Int} (h1 : -9223372036854775808 ≤ z) (h2 : z ≤ 9223372036854775807) : IntKind.i64.wrap z = z := IntWalk.i64_in _ (by omega)

set_option maxRecDepth 100000 in
set_option maxHeartbeats 8000000 in
theorem concat_any (u : U) (A : Option Addr) (n c : Nat) (R : Option Addr) (m d : Nat) (row : List Bool) (Rb : Option Addr) (mb db : Nat) (rowb : List Bool) (w : World) (hs : StepsAt w A n u.steps) (hn : n ≤ maxLen)
    (hr : BoolsAt w R m row) (hm : m ≤ maxLen) (hrb : BoolsAt w Rb mb rowb) (hmx : mb ≤ maxLen) :
    Calls Try.prog 8 #[u.val A n c, .slice R m d, .slice Rb mb db] w fun e w' => e = .returned (.bool true) ∧ Ext w w' := by
  go_enter Try.func8, Try.ntmps8
  go_wp2_with fail
  refine (long_any u A n c R m d _).mono ?_
  rintro e w01 ⟨rfl, hb1⟩
  have HE1 : Hid (Ext w w01) := Ext.new hb1
  have HU1 := Lib.hid ((ubox w u A n c).ext hb1)
  rcases hlong : longB n m with _ | _
  rotate_left
  · clear hlong hb1
    go_wp2_with fail
    refine (awake_any _).mono ?_
    rintro e w3 ⟨rfl, hb3⟩
    go_wp2_with fail
    go_ret
    exact ⟨rfl, Ext.trans HE1.out hb3⟩
  have hm1 : m ≤ 100 := by simp [longB] at hlong; omega
  clear hlong hb1
  obtain ⟨d0, d1, d2, d3, d4, d5, d6, d7, d8⟩ := HU1.out
  go_wp2_with fail
  refine (long_any u A n c Rb mb db _).mono ?_
  rintro e w02 ⟨rfl, hb1⟩
  replace HE1 : Hid (Ext w w02) := Ext.trans HE1.out hb1
  replace HU1 := Lib.hid (HU1.out.ext hb1)
  clear d0 d1 d2 d3 d4 d5 d6 d7 d8
  rcases hlong : longB n mb with _ | _
  rotate_left
  · clear hlong hb1
    go_wp2_with fail
    refine (awake_any _).mono ?_
    rintro e w3 ⟨rfl, hb3⟩
    go_wp2_with fail
    go_ret
    exact ⟨rfl, Ext.trans HE1.out hb3⟩
  have hm2 : mb ≤ 100 := by simp [longB] at hlong; omega
  clear hlong hb1
  obtain ⟨d0, d1, d2, d3, d4, d5, d6, d7, d8⟩ := HU1.out
  go_wp2_with fail
  refine (may_any u A n c _ (hs.below HE1.out) hn).mono ?_
  rintro e w2 ⟨rfl, hb2⟩
  have HE2 : Hid (Ext w w2) := Ext.trans HE1.out hb2
  have HU2 := Lib.hid (HU1.out.ext hb2)
  clear d0 d1 d2 d3 d4 d5 d6 d7 d8 hb2
  rcases hok : u.ok with _ | _
  · clear hok
    go_wp2_with fail
    refine (awake_any _).mono ?_
    rintro e w3 ⟨rfl, hb3⟩
    go_wp2_with fail
    go_ret
    exact ⟨rfl, Ext.trans HE2.out hb3⟩
  have HOK := Lib.hid hok
  clear hok
  go_wp2_with fail
  refine (awake_any _).mono ?_
  rintro e w3 ⟨rfl, hb3⟩
  have HE3 : Hid (Ext w w3) := Ext.trans HE2.out hb3
  have HU3 := Lib.hid (HU2.out.ext hb3)
  have G := U.good HOK.out
  clear hb3 HU1 HU2 HE1 HE2
  have HW0 : Hid ((w3.alloc (.cells #[] 4)).ownsRow w3.heap.size 4 1 (.slice (some ⟨w3.heap.size, 0, none⟩) 0 0) 0 []) :=
    ⟨by simp, .inr ⟨w3.heap.size, 0, #[], rfl, Nat.le_refl _, heap_alloc_new w3 _, by simp, by simp, rfl, rfl⟩⟩
  have HR3 := Lib.hid ((hr.below HE3.out).below (Ext.new1 w3 (.cells #[] 4)))
  go_wp2_with (first
    | (at_builtin
       refine wpList_append_src _ rfl (.tmp 29) (.tmp 30) rfl w3.heap.size (.slice (some ⟨w3.heap.size, 0, none⟩) 0 0) 0 [] rfl HW0.out R m d row rfl HR3.out (.inl (by simp)) (by omega) (by simp) ?_
       intro g1 cap1 w4 hown1 hgrow1 hat1
       rw [Nat.zero_add]
       rw [Nat.zero_add, List.nil_append] at hown1
       have HX1 := Lib.hid hown1
       have HG1 : Hid (Ext w3 w4) := ext_grown (Ext.new1 w3 (.cells #[] 4)) hgrow1 (by intro k hk; simp [Value.ownBlock] at hk; omega)
       clear hown1 hgrow1 hat1)
    | (at_builtin
       refine wpList_append_src _ rfl (.tmp 31) (.tmp 32) rfl w3.heap.size (.slice (some ⟨g1, 0, none⟩) m cap1) m (row.map Value.bool) rfl HX1.out Rb mb db rowb rfl (hrb.below (Ext.trans HE3.out HG1.out)) (.inl (by simp)) (by omega) HG1.out.size ?_
       intro g2 cap2 w5 hown2 hgrow2 hat2
       rw [← List.map_append] at hown2
       have HX2 := Lib.hid hown2
       have HG2 : Hid (Ext w3 w5) := ext_grown HG1.out hgrow2 (by intro k hk; exact (own_lt HX1.out hk).2)
       have HRC : Hid (BoolsAt w5 (some ⟨g2, 0, none⟩) (m + mb) (row ++ rowb)) := own_bools HX2.out
       have HE5 : Hid (Ext w w5) := Ext.trans HE3.out HG2.out
       have HU5 := Lib.hid (HU3.out.ext HG2.out)
       obtain ⟨d0, d1, d2, d3, d4, d5, d6, d7, d8⟩ := HU5.out
       clear hown2 hgrow2 hat2 HX1 HG1))
  clear HU3 HE3 HR3 HW0 HX2 HG2 d0 d1 d2 d3 d4 d5 d6 d7 d8
  have hmc : m + mb ≤ maxLen := by simp [maxLen]; omega
  have HMC := Lib.hid hmc
  clear hmc
  have HOF : Hid (u.feas (row ++ rowb) = (u.feas row && u.feasFrom (u.after u.init row) rowb)) := by
    unfold Hid U.feas
    rw [HOK.out, feas_append]
    rfl
  ((with_reducible refine (feasible_any u A n c R m d row _ (hs.below HE5.out) hn (hr.below HE5.out) hm).mono ?_))
  rintro e w6 ⟨rfl, hb6⟩
  have HE6 : Hid (Ext w w6) := Ext.trans HE5.out hb6
  have HU6 := Lib.hid (HU5.out.ext hb6)
  have HR6 := Lib.hid (HRC.out.below hb6)
  clear hb6 HE5 HU5 HRC
  obtain ⟨d0, d1, d2, d3, d4, d5, d6, d7, d8⟩ := HU6.out
  cases hfa : u.feas row
  · have HF0 : Hid (u.feas (row ++ rowb) = false) := by unfold Hid; rw [HOF.out, hfa]; rfl
    clear hfa
    go_wp2_with fail
    ((with_reducible refine (feasible_any u A n c _ _ cap2 (row ++ rowb) _ (hs.below HE6.out) hn HR6.out HMC.out).mono ?_))
    rintro e w7 ⟨rfl, hb7⟩
    rw [HF0.out]
    go_wp2_with fail
    go_ret
    exact ⟨rfl, Ext.trans HE6.out hb7⟩
  · have HFA : Hid (u.feasFrom u.init row = true) := by
      have := hfa
      unfold U.feas at this
      rw [HOK.out] at this
      exact this
    have HF1 : Hid (u.feas (row ++ rowb) = u.feasFrom (u.after u.init row) rowb) := by unfold Hid; rw [HOF.out, hfa]; rfl
    clear hfa
    go_wp2_with fail
    clear d0 d1 d2 d3 d4 d5 d6 d7 d8
    refine (initial_any u A n c _ (hs.below HE6.out) hn).mono ?_
    rintro e w7 ⟨rfl, hb7⟩
    have hinit : u.initial = u.init := by unfold U.initial; rw [HOK.out]; rfl
    rw [hinit]
    clear hinit
    have HE7 : Hid (Ext w w7) := Ext.trans HE6.out hb7
    have HU7 := Lib.hid (HU6.out.ext hb7)
    have HR7 := Lib.hid (HR6.out.below hb7)
    clear hb7 HE6 HU6 HR6
    have HL := Lib.hid hr.1
    have HRa := Lib.hid (hr.below HE7.out).2
    have HST := Lib.hid (U.init_state G)
    go_wp2_with fail
    go_loopw [8, 9] (fun s i wr => ∃ (k : Nat) (q : Int), k ≤ m ∧ i = .int .i64 k ∧ s = .int .i64 q ∧ Hid (u.isState q = true) ∧ Hid (u.feasFrom q (row.drop k) = true) ∧ Hid (u.after u.init row = u.after q (row.drop k)) ∧ Ext w7 wr) (fun _ i _ => m - (intOf i).toNat)
    case atStart => exact ⟨0, u.init, Nat.zero_le _, rfl, rfl, HST, HFA, rfl, Ext.rfl'⟩
    case round =>
      obtain ⟨k, q, hk, rfl, rfl, HQ, HFR, HAF, hbw⟩ := hrel
      have HUr := Lib.hid (HU7.out.ext hbw)
      obtain ⟨d0, d1, d2, d3, d4, d5, d6, d7, d8⟩ := HUr.out
      by_cases hlt2 : k < m
      · obtain ⟨b, off, rfl, hbl, hcell⟩ := HRa.out (by omega)
        have c1 := Ext.cellOf hbw (hcell k hlt2)
        clear hcell
        have hbv : decide ((k : Int) < (m : Int)) = true := by simp; omega
        have h01 : (0 : Int) ≤ (k : Int) := by omega
        have h02 : (k : Int) < (m : Int) := by omega
        have HN := Lib.hid (feas_at (u := u) (s := q) (xs := row) (k := k) (by rw [HL.out]; exact hlt2))
        have HA2 : Hid (u.after q (row.drop k) = if u.next q (row.getD k false) = 0 then 0 else u.after (u.next q (row.getD k false)) (row.drop (k + 1))) := by
          have hk' : k < row.length := by rw [HL.out]; exact hlt2
          have hg : row.getD k false = row[k] := by simp [List.getD, hk']
          unfold Hid
          rw [List.drop_eq_getElem_cons hk', hg]
          rfl
        generalize row.getD k false = on at *
        have hne : u.next q on ≠ 0 := by
          intro h0
          have := HFR.out
          rw [HN.out, if_pos h0] at this
          cases this
        have x0 := fun x : ExtOf wr => x.cell d0
        have x1 := fun x : ExtOf wr => x.cell d1
        have x2 := fun x : ExtOf wr => x.cell d2
        have x3 := fun x : ExtOf wr => x.cell d3
        have x4 := fun x : ExtOf wr => x.cell d4
        have x5 := fun x : ExtOf wr => x.cell d5
        have x6 := fun x : ExtOf wr => x.cell d6
        have x7 := fun x : ExtOf wr => x.cell d7
        have x8 := fun x : ExtOf wr => x.cell d8
        have x9 := fun x : ExtOf wr => x.cell c1
        have C1 := fun wx (h : Ext wr wx) => nextG_any u q on A n c wx ((hs.below (Ext.trans HE7.out hbw)).below h) hn
        simp only [nextG_eqC HOK.out HQ.out] at C1
        have K1 := Lib.hid C1
        have HNE := Lib.hid hne
        clear C1 hne
        go_wp2_with fail
        refine wp_region_ext (by kernel_rfl) (by kernel_rfl) ?_
        repeat (go_big_quiet_step (exact ext_call (K1.out _ (ExtOf.h _))))
        refine wpQuiet_nil ?_
        rintro _ ⟨x, rfl⟩
        clear x0 x1 x2 x3 x4 x5 x6 x7 x8 x9
        go_wp2_with fail
        go_roundw
        case rel =>
          refine ⟨k + 1, u.next q on, by omega, by go_num, rfl, U.next_state G HQ.out HNE.out, ?_, ?_, Ext.trans hbw x.h⟩
          · have := HFR.out
            rw [HN.out, if_neg HNE.out] at this
            exact this
          · unfold Hid
            rw [HAF.out, HA2.out, if_neg HNE.out]
        case measure => simp [intOf]; omega
      · have hbv : decide ((k : Int) < (m : Int)) = false := by simp; omega
        have HAQ : Hid (u.after u.init row = q) := by
          unfold Hid
          rw [HAF.out, List.drop_eq_nil_of_le (by rw [HL.out]; omega)]
          rfl
        have HSQ : Hid (decide (0 < q) = lastB (decide (0 < u.on)) row) := by
          have := (after_state G row u.init HST.out HFA.out).2
          rw [HAQ.out, init_signS G] at this
          exact this
        have hlt : w.heap.size < wr.heap.size := World.block_lt_of_cell? _ _ d0
        go_wp2_with fail
        change Code.wp _ _ _ _ (wr.alloc ((u.setOn q).cells A n c))
        clear d0 d1 d2 d3 d4 d5 d6 d7 d8
        have hE8 : Ext w (wr.alloc ((u.setOn q).cells A n c)) := Ext.trans HE7.out (Ext.trans hbw (Ext.new1 _ _))
        have hsu := hs.below hE8
        have hsv : StepsAt (wr.alloc ((u.setOn q).cells A n c)) A n (u.setOn q).steps := hsu
        have hra := hr.below hE8
        have hrbb := hrb.below hE8
        have hrc := (HR7.out.below hbw).below (Ext.new1 wr ((u.setOn q).cells A n c))
        have HV8 := Lib.hid (ubox wr (u.setOn q) A n c)
        have HU8 := Lib.hid (HUr.out.ext (Ext.new1 wr ((u.setOn q).cells A n c)))
        have hvok := setOn_ok HOK.out HQ.out
        have e1 : u.feas (row ++ rowb) = (u.setOn q).feas rowb := by rw [HF1.out, HAQ.out, setOn_feas HOK.out HQ.out]
        have e2 : u.starts (row ++ rowb) = u.starts row + (u.setOn q).starts rowb := by
          rw [setOn_starts HOK.out HQ.out, HSQ.out]
          unfold U.starts
          rw [HOK.out]
          exact starts_append row rowb _
        have e3 : u.cost (row ++ rowb) = u.cost row + (u.setOn q).cost rowb := by
          rw [setOn_cost HOK.out HQ.out, HSQ.out]
          unfold U.cost
          rw [HOK.out]
          simp only [if_true]
          rw [e2, setOn_starts HOK.out HQ.out, HSQ.out, ons_append, Int.mul_add, Int.mul_add]
          omega
        have hl1 : row.length ≤ 1000 := by rw [HL.out]; omega
        have hl2 : rowb.length ≤ 1000 := by rw [hrb.1]; omega
        have b1 := ustarts_bd u row
        have b2 := ustarts_bd (u.setOn q) rowb
        have b3 := cost_bd HOK.out hl1
        have b4 := cost_bd hvok hl2
        have wr1 : IntKind.i64.wrap (u.starts row + (u.setOn q).starts rowb) = u.starts row + (u.setOn q).starts rowb := wrap_in (by omega) (by omega)
        have wr2 : IntKind.i64.wrap (u.cost row + (u.setOn q).cost rowb) = u.cost row + (u.setOn q).cost rowb := wrap_in (by omega) (by omega)
        clear b1 b2 b3 b4 hl1 hl2
        generalize u.setOn q = v at *
        generalize wr.alloc (v.cells A n c) = w8 at *
        have C1 := fun wx (h : Ext w8 wx) => may_any v A n c wx (hsv.below h) hn
        have C2 := fun wx (h : Ext w8 wx) => feasible_any u A n c _ _ cap2 (row ++ rowb) wx (hsu.below h) hn (hrc.below h) HMC.out
        have C3 := fun wx (h : Ext w8 wx) => feasible_any v A n c Rb mb db rowb wx (hsv.below h) hn (hrbb.below h) hmx
        have C4 := fun wx (h : Ext w8 wx) => starts_any u A n c _ _ cap2 (row ++ rowb) wx (hsu.below h) hn (hrc.below h) HMC.out
        have C5 := fun wx (h : Ext w8 wx) => starts_any u A n c R m d row wx (hsu.below h) hn (hra.below h) hm
        have C6 := fun wx (h : Ext w8 wx) => starts_any v A n c Rb mb db rowb wx (hsv.below h) hn (hrbb.below h) hmx
        have C7 := fun wx (h : Ext w8 wx) => cost_any u A n c _ _ cap2 (row ++ rowb) wx (hsu.below h) hn (hrc.below h) (by omega)
        have C8 := fun wx (h : Ext w8 wx) => cost_any u A n c R m d row wx (hsu.below h) hn (hra.below h) (by omega)
        have C9 := fun wx (h : Ext w8 wx) => cost_any v A n c Rb mb db rowb wx (hsv.below h) hn (hrbb.below h) (by omega)
        simp only [hvok] at C1
        simp only [e1] at C2
        simp only [e2] at C4
        simp only [e3] at C7
        have K1 := Lib.hid C1
        have K2 := Lib.hid C2
        have K3 := Lib.hid C3
        have K4 := Lib.hid C4
        have K5 := Lib.hid C5
        have K6 := Lib.hid C6
        have K7 := Lib.hid C7
        have K8 := Lib.hid C8
        have K9 := Lib.hid C9
        clear C1 C2 C3 C4 C5 C6 C7 C8 C9 e1 e2 e3 hvok
        obtain ⟨d0, d1, d2, d3, d4, d5, d6, d7, d8⟩ := HU8.out
        obtain ⟨g0, g1, g2, g3, g4, g5, g6, g7, g8⟩ := HV8.out
        have x0 := fun x : ExtOf w8 => x.cell d0
        have x1 := fun x : ExtOf w8 => x.cell d1
        have x2 := fun x : ExtOf w8 => x.cell d2
        have x3 := fun x : ExtOf w8 => x.cell d3
        have x4 := fun x : ExtOf w8 => x.cell d4
        have x5 := fun x : ExtOf w8 => x.cell d5
        have x6 := fun x : ExtOf w8 => x.cell d6
        have x7 := fun x : ExtOf w8 => x.cell d7
        have x8 := fun x : ExtOf w8 => x.cell d8
        have y0 := fun x : ExtOf w8 => x.cell g0
        have y1 := fun x : ExtOf w8 => x.cell g1
        have y2 := fun x : ExtOf w8 => x.cell g2
        have y3 := fun x : ExtOf w8 => x.cell g3
        have y4 := fun x : ExtOf w8 => x.cell g4
        have y5 := fun x : ExtOf w8 => x.cell g5
        have y6 := fun x : ExtOf w8 => x.cell g6
        have y7 := fun x : ExtOf w8 => x.cell g7
        have y8 := fun x : ExtOf w8 => x.cell g8
        refine wp_region_ext (by kernel_rfl) (by kernel_rfl) ?_
        repeat (go_big_quiet_step (first
          | (go_at_call 15; exact ext_call (K1.out _ (ExtOf.h _)))
          | (go_at_call 16; first | with_reducible exact ext_call (K2.out _ (ExtOf.h _)) | with_reducible exact ext_call (K3.out _ (ExtOf.h _)))
          | (go_at_call 19; first | with_reducible exact ext_call (K4.out _ (ExtOf.h _)) | with_reducible exact ext_call (K5.out _ (ExtOf.h _)) | with_reducible exact ext_call (K6.out _ (ExtOf.h _)))
          | (go_at_call 22; first | with_reducible exact ext_call (K7.out _ (ExtOf.h _)) | with_reducible exact ext_call (K8.out _ (ExtOf.h _)) | with_reducible exact ext_call (K9.out _ (ExtOf.h _)))))
        refine wpQuiet_nil ?_
        rintro _ ⟨x, rfl⟩
        clear x0 x1 x2 x3 x4 x5 x6 x7 x8 y0 y1 y2 y3 y4 y5 y6 y7 y8
        go_wp2_with fail
        go_ret
        exact ⟨rfl, Ext.trans hE8 x.h⟩
end Go.Proofs.Ytkkobdfhnkdfgaa
