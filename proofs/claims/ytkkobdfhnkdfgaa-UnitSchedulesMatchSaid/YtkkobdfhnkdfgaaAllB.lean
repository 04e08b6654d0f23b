/- The walk of pylonref26.all and All. -/
import Derived.Test.YtkkobdfhnkdfgaaAll
namespace Go.Proofs.Ytkkobdfhnkdfgaa
open Go.RowKit

theorem lit_own (w : World) (B : Nat) (hB : B ≤ w.heap.size) (b : Bool) : (w.alloc (.cells #[.bool b] 4)).ownsRow B 4 1 (.slice (some ⟨w.heap.size, 0, none⟩) 1 1) 1 [.bool b] :=
  ⟨by simp, .inr ⟨w.heap.size, 1, #[.bool b], rfl, hB, heap_alloc_new w _, by simp, by simp [maxLen], rfl, rfl⟩⟩

set_option maxHeartbeats 4000000 in
theorem all_any (n : Nat) : ∀ (z : Int) (w : World), z = n → n ≤ 8 →
    Calls Try.prog 27 #[.int .i64 z] w fun e w' => ∃ A c, e = .returned (.slice A (2 ^ n) c) ∧ RowsAt w' A (2 ^ n) (bitsL n) ∧ Ext w w' := by
  obtain ⟨i1, hi1, hy0, hy1, hy2⟩ := info_parts info_bools
  induction n with
  | zero =>
    intro z w hz _
    subst hz
    go_enter Try.func27, Try.ntmps27
    go_wp2_with fail
    go_ret
    refine ⟨_, _, rfl, ⟨rfl, fun _ => ⟨w.heap.size, 0, rfl, by simp, fun i hi => ⟨none, 0, 0, ?_, ?_, by omega⟩⟩⟩, Ext.new1 _ _⟩
    · obtain rfl : i = 0 := by omega
      exact (Blk.new w 32 #[.slice none 0 0]).cell 0
    · obtain rfl : i = 0 := by omega
      exact ⟨rfl, fun h => by omega⟩
  | succ n ih =>
    intro z w hz h8
    have hz0 : (z == 0) = false := by simp; omega
    have hz1 : z - 1 = (n : Int) := by omega
    have hzl : 1 ≤ z := by omega
    have hzh : z ≤ 9 := by omega
    have HIH := Lib.hid ih
    have HZ := Lib.hid hz1
    have hp2 : 2 ^ n ≤ 256 := by
      have : 2 ^ n ≤ 2 ^ 8 := Nat.pow_le_pow_right (by omega) (by omega)
      omega
    clear hz ih hz1
    go_enter Try.func27, Try.ntmps27
    go_wp2_with fail
    refine (HIH.out _ _ HZ.out (by omega)).mono ?_
    rintro e w1 ⟨A, c, rfl, hR, hb1⟩
    have HR := Lib.hid hR
    clear hR
    obtain ⟨N, hN⟩ : ∃ N, 2 ^ n = N := ⟨_, rfl⟩
    have HBL : Hid ((bitsL n).length = N) := by unfold Hid; rw [bitsL_len, hN]
    rw [hN] at HR hp2 ⊢
    have HN := Lib.hid hN
    clear hN
    go_wp2_with fail
    go_loopw [3, 5] (fun v i wr => ∃ k : Nat, k ≤ 2 ∧ i = .int .i64 k ∧ Hid (Lists wr w1.heap.size (n + 1) v (firstL n k)) ∧ Ext w1 wr) (fun _ i _ => 2 - (intOf i).toNat)
    case atStart => exact ⟨0, by omega, rfl, ⟨[], ⟨by simp [firstL], .inl ⟨rfl, by simp [firstL]⟩⟩, by simp, by simp [firstL], by simp⟩, Ext.rfl'⟩
    case round =>
      obtain ⟨k, hk, rfl, HL, hbw⟩ := hrel
      by_cases hk2 : k < 2
      · have hbv : decide ((k : Int) < 2) = true := by simp; omega
        have hbe : ((k : Int) == 1) = decide (k = 1) := by
          have h : k = 0 ∨ k = 1 := by omega
          rcases h with rfl | rfl <;> rfl
        have HFN := Lib.hid (firstL_next n hk2)
        have HFL := Lib.hid (firstL_len n hk)
        generalize decide (k = 1) = b at *
        go_wp2_with fail
        go_loopw [3, 6] (fun v i wx => ∃ j : Nat, j ≤ N ∧ i = .int .i64 j ∧ Hid (Lists wx w1.heap.size (n + 1) v (firstL n k ++ ((bitsL n).take j).map (b :: ·))) ∧ Ext w1 wx) (fun _ i _ => N - (intOf i).toNat)
        case atStart => exact ⟨0, by omega, rfl, by simpa using HL, hbw⟩
        case round =>
          obtain ⟨j, hj, rfl, HLJ, hbx⟩ := hrel
          by_cases hj2 : j < N
          · have hbv2 : decide ((j : Int) < (N : Int)) = true := by simp; omega
            obtain ⟨g, off, rfl, hgl, hcell⟩ := HR.out.2 (by omega)
            obtain ⟨R, m, d, c1, hB, hml⟩ := hcell j hj2
            clear hcell
            have c2 := Ext.cellOf hbx c1
            have hgl2 : g < wr.heap.size := Nat.lt_of_lt_of_le hgl hbx.size
            have HBx := Lib.hid ((hB.below hbx).below (Ext.new1 wr (.cells #[.bool b] 4)))
            have hmem : (bitsL n).getD j [] ∈ bitsL n := by
              have : j < (bitsL n).length := by rw [HBL.out]; exact hj2
              simp [List.getD, this]
            have hmn : m = n := by rw [← hB.1]; exact bitsL_mem n _ hmem
            subst hmn
            have HTS : Hid (firstL m k ++ ((bitsL m).take (j + 1)).map (b :: ·) = (firstL m k ++ ((bitsL m).take j).map (b :: ·)) ++ [b :: (bitsL m).getD j []]) := by
              unfold Hid
              rw [take_snoc (bitsL m) [] (by rw [HBL.out]; exact hj2)]
              simp
            have hLl : (firstL m k ++ ((bitsL m).take j).map (b :: ·)).length ≤ 2000 := by
              have h1 := HFL.out
              have h2 := HN.out
              simp only [List.length_append, List.length_map, List.length_take]
              omega
            obtain ⟨FC, ho, hpw, hfl, hel⟩ := HLJ.out
            have HW0 := Lib.hid (lit_own wr w1.heap.size hbx.size b)
            have HO := Lib.hid ho
            clear c1 hB hmem ho
            generalize firstL m k ++ ((bitsL m).take j).map (b :: ·) = L at *
            generalize (bitsL m).getD j [] = xs at *
            go_wp2_with (first
              | (at_builtin
                 refine wpList_append_src _ rfl (.tmp 26) (.tmp 30) rfl w1.heap.size (.slice (some ⟨wr.heap.size, 0, none⟩) 1 1) 1 [.bool b] rfl HW0.out R m d xs rfl HBx.out (.inl (by simp)) (by omega) (by simp; have := hbx.size; omega) ?_
                 intro g1 cap1 w2 hown1 hgrow1 hat1
                 rw [Nat.add_comm 1 m]
                 rw [Nat.add_comm 1 m] at hown1
                 have HX1 := Lib.hid hown1
                 have HG1 := Lib.hid hgrow1
                 have HA1 := Lib.hid hat1
                 have hk1 : ∀ k, k < wr.heap.size → w2.heap[k]? = wr.heap[k]? := fun k hk => (hgrow1.block k (by simp; omega) (by simp [Value.ownBlock]; omega)).trans (Below.heap_alloc wr _ k hk)
                 have HK1 := Lib.hid hk1
                 have HZ1 : Hid (wr.heap.size + 1 ≤ w2.heap.size) := by have := hgrow1.size; simpa [Hid] using this
                 have HO1 := Lib.hid (own_keep (w' := w2.alloc (.cells #[hdr (m + 1) (g1, cap1)] 32)) HO.out fun g hg => (Below.heap_alloc w2 _ g (by have := (own_lt HO.out hg).1; have := HZ1.out; omega)).trans (hk1 g (own_lt HO.out hg).1))
                 clear hown1 hgrow1 hat1 hk1)
              | (at_builtin
                 refine wpList_append_at _ rfl (.tmp 23) (.tmp 32) 27 rfl w1.heap.size 32 i1 _ 1 24 Try.underlying27 hi1 hy0 hy1 hy2 rfl (by omega) _ L.length (FC.map (hdr (m + 1))) rfl HO1.out
                   ⟨w2.heap.size, 0, none⟩ 1 1 [hdr (m + 1) (g1, cap1)] rfl rfl (World.news_of_block (cs := #[hdr (m + 1) (g1, cap1)]) (t := 32) (fr := (0, 0)) (heap_alloc_new w2 _)) (by simp [Value.oneCell']) (.inr (by omega)) (by simp [maxLen]; omega) (by omega) (by simp; have := hbx.size; have := HZ1.out; omega) ?_
                 intro g2 cap2 w3 hown2 hgrow2 hat2
                 have HX2 := Lib.hid hown2
                 have HG2 := Lib.hid hgrow2
                 clear hown2 hgrow2 hat2))
            have HNEW : Hid (Lists w3 w1.heap.size (m + 1) (.slice (some ⟨g2, 0, none⟩) (L.length + 1) cap2) (L ++ [b :: xs])) :=
              lists_snoc HO.out hpw hfl hel HK1.out (by have := HZ1.out; omega) (by simpa using HX1.out) (by have := HA1.out; simp [Value.ownBlock] at this; omega) HG2.out HX2.out
            have HEW : Hid (Ext w1 w3) := ext_grown (Ext.trans (ext_grown (Ext.trans hbx (Ext.new1 wr (.cells #[.bool b] 4))) HG1.out (by intro k2 hk2; simp [Value.ownBlock] at hk2; have := hbx.size; omega)) (Ext.new1 w2 (.cells #[hdr (m + 1) (g1, cap1)] 32))) HG2.out (by intro k2 hk2; exact (own_lt HO.out hk2).2)
            go_roundw
            case rel => exact ⟨j + 1, by omega, by go_num, by rw [HTS.out]; exact HNEW, HEW.out⟩
            case measure => simp [intOf]; omega
          · have hbv2 : decide ((j : Int) < (N : Int)) = false := by simp; omega
            have HDONE : Hid (Lists wr w1.heap.size (n + 1) u3 (firstL n (k + 1))) := by
              have h1 := HLJ.out
              rw [List.take_of_length_le (by rw [HBL.out]; omega), ← HFN.out] at h1
              exact h1
            go_wp2_with fail
            go_roundw
            case rel => exact ⟨k + 1, by omega, by go_num, HDONE, hbx⟩
            case measure => simp [intOf]; omega
      · have hbv : decide ((k : Int) < 2) = false := by simp; omega
        obtain rfl : k = 2 := by omega
        have hrows := HL.out
        rw [firstL_all] at hrows
        obtain ⟨A2, c2, hv2, hR2⟩ := hrows.rows (by omega)
        subst hv2
        rw [bitsL_len] at hR2
        have HR2 := Lib.hid hR2
        clear hR2 hrows HL
        rw [bitsL_len]
        go_wp2_with fail
        go_ret
        exact ⟨A2, c2, rfl, HR2.out, Ext.trans hb1 hbw⟩

set_option maxHeartbeats 400000 in
theorem allX_any (n : Nat) (w : World) (h8 : n ≤ 8) :
    Calls Try.prog 20 #[.int .i64 n] w fun e w' => ∃ A c, e = .returned (.slice A (2 ^ n) c) ∧ RowsAt w' A (2 ^ n) (bitsL n) ∧ Ext w w' := by
  go_enter Try.func20, Try.ntmps20
  go_wp2_with fail
  refine (all_any n _ _ rfl h8).mono ?_
  rintro e w1 ⟨A, c, rfl, hR, hb1⟩
  have HR := Lib.hid hR
  clear hR
  go_wp2_with fail
  go_ret
  exact ⟨A, c, rfl, HR.out, hb1⟩
end Go.Proofs.Ytkkobdfhnkdfgaa
