/- Contracts of strings.CutPrefix (at "-"), whole.isDecimal, whole.scaleWords, whole.Parse. Printed by gen_txz.py. -/
import Derived.Test.YtnofbjcikfofgaaGreatTxC
import Derived.Test.YtnofbjcikfofgaaGreatFracN
namespace Go.Proofs.YtnofbjcikfofgaaGreat
open Go.RowKit

/-- A text as a string. -/
def bs (l : Bs) : ByteArray := ⟨l.toArray⟩
theorem bs_list (l : Bs) : (bs l).data.toList = l := by simp [bs]
theorem bs_size (l : Bs) : (bs l).size = l.length := by simp [bs, ByteArray.size]
theorem bs_self (s : ByteArray) : bs s.data.toList = s := by cases s; simp [bs]
theorem bs_of {s : ByteArray} {l : Bs} (h : s.data.toList = l) : s = bs l := by rw [← h, bs_self]
theorem ext_list (s : ByteArray) (a b : Nat) : (s.extract a b).data.toList = (s.data.toList.drop a).take (b - a) := by
  rw [ByteArray.data_extract, Array.toList_extract]
theorem ext_bs (s : ByteArray) (a b : Nat) : s.extract a b = bs ((s.data.toList.drop a).take (b - a)) := bs_of (ext_list s a b)
theorem len_list (s : ByteArray) : s.data.toList.length = s.size := by simp
theorem emp_false {s : ByteArray} (h : 0 < s.size) : (!s.toList.isEmpty) = true ∧ s.toList.isEmpty = false ∧ ¬ s.toList = [] := by
  have h1 := len_list s
  rw [ByteArray.toList_eq]
  cases h2 : s.data.toList with
  | nil => rw [h2] at h1; simp at h1; omega
  | cons => simp

set_option maxHeartbeats 1000000 in
theorem prefix_any (s : ByteArray) (w : World) (hs : s.size ≤ maxLen) : Calls Tryz.prog 113 #[.string s, .string ⟨#[45]⟩] w fun e w' => e = .returned (.bool (negB s.data.toList)) ∧ w = w' := by
  unfold maxLen at hs
  have hl := len_list s
  by_cases h0 : 0 < s.size
  · have h1 : decide ((1 : Int) ≤ (s.size : Int)) = true := by simp; omega
    have HR : Hid (((s.extract 0 1).toList == [45]) = negB s.data.toList) := by
      unfold Hid
      rw [ByteArray.toList_eq, ext_list]
      unfold negB
      cases h2 : s.data.toList with
      | nil => rfl
      | cons x xs => simp
    clear hl
    go_enter Tryz.func113, Tryz.ntmps113
    go_wp2_with fail
    go_ret
    exact ⟨ret_b HR.out, rfl⟩
  · have h1 : decide ((1 : Int) ≤ (s.size : Int)) = false := by simp; omega
    have HR : Hid (false = negB s.data.toList) := by
      unfold Hid negB
      cases h2 : s.data.toList with
      | nil => rfl
      | cons x xs => rw [h2] at hl; simp at hl; omega
    clear hl
    go_enter Tryz.func113, Tryz.ntmps113
    go_wp2_with fail
    go_ret
    exact ⟨ret_b HR.out, rfl⟩
theorem ret_sb {a b : ByteArray} {x y : Bool} (h : a = b) (k : x = y) : Ending.returned (.tuple #[.string a, .bool x]) = .returned (.tuple #[.string b, .bool y]) := by rw [h, k]
set_option maxHeartbeats 1000000 in
theorem cutlite_any (s : ByteArray) (w : World) (hs : s.size ≤ maxLen) : Calls Tryz.prog 108 #[.string s, .string ⟨#[45]⟩] w fun e w' => e = .returned (.tuple #[.string (bs (digD s.data.toList)), .bool (negB s.data.toList)]) ∧ w = w' := by
  have hs' := hs
  unfold maxLen at hs
  have hl := len_list s
  obtain ⟨b, hb⟩ : ∃ b, negB s.data.toList = b := ⟨_, rfl⟩
  have HD : Hid (digD s.data.toList = if b then s.data.toList.tail else s.data.toList) := by rw [← hb]; rfl
  have HB := Lib.hid hb
  clear hb
  rw [HB.out]
  cases b
  · go_enter Tryz.func108, Tryz.ntmps108
    go_wp2_with (refine (prefix_any s _ hs').mono ?_; rintro e w' ⟨rfl, rfl⟩; rw [HB.out])
    go_ret2
    exact ⟨ret_sb (by rw [HD.out]; exact (bs_self s).symm) rfl, rfl⟩
  · have h0 : 1 ≤ s.size := by
      have h := HB.out
      cases h2 : s.data.toList with
      | nil => rw [h2] at h; cases h
      | cons x xs => rw [h2] at hl; simp at hl; omega
    have h1 : decide ((1 : Int) ≤ (s.size : Int)) = true := by simp; omega
    go_enter Tryz.func108, Tryz.ntmps108
    go_wp2_with (refine (prefix_any s _ hs').mono ?_; rintro e w' ⟨rfl, rfl⟩; rw [HB.out])
    go_ret2
    refine ⟨ret_sb ?_ rfl, rfl⟩
    rw [HD.out, ext_bs, if_pos trivial, List.take_of_length_le (by rw [List.length_drop, hl]; omega), List.drop_one]
set_option maxHeartbeats 1000000 in
theorem cutneg_any (s : ByteArray) (w : World) (hs : s.size ≤ maxLen) : Calls Tryz.prog 99 #[.string s, .string ⟨#[45]⟩] w fun e w' => e = .returned (.tuple #[.string (bs (digD s.data.toList)), .bool (negB s.data.toList)]) ∧ w = w' := by
  go_enter Tryz.func99, Tryz.ntmps99
  go_wp2_with fail
  refine (cutlite_any s _ hs).mono ?_
  rintro e w' ⟨rfl, rfl⟩
  go_wp2_with fail
  go_ret2
  exact ⟨rfl, rfl⟩

theorem all_take_succ {p : UInt8 → Bool} {s : ByteArray} {k : Nat} (h : k < s.size) : (s.data.toList.take (k + 1)).all p = ((s.data.toList.take k).all p && p s[k]) := by
  rw [List.take_succ_eq_append_getElem (by simpa using h), List.all_append]
  simp
  rfl
set_option maxHeartbeats 4000000 in
theorem dec_any (s : ByteArray) (w : World) (hs : s.size ≤ maxLen) : Calls Tryz.prog 100 #[.string s] w fun e w' => e = .returned (.bool (decB s.data.toList)) ∧ w = w' := by
  unfold maxLen at hs
  have hl := len_list s
  by_cases h0 : 0 < s.size
  · obtain ⟨he1, he2, he3⟩ := emp_false h0
    have hg0 : s.data.toList.head? = some s[0] := by
      rw [List.head?_eq_getElem?, List.getElem?_eq_getElem (by omega)]
      rfl
    have HA : Hid (decB s.data.toList = (s.data.toList.all isDig && !(decide (s[0].toNat = 48) && decide (1 < s.size)))) := by
      unfold Hid decB allC
      rw [hg0, hl]
      have e1 : s.data.toList.isEmpty = false := by rw [← ByteArray.toList_eq]; exact he2
      rw [e1]
      have e2 : (some s[0] == some (48 : UInt8)) = decide (s[0].toNat = 48) := by
        rw [show (some s[0] == some (48 : UInt8)) = (s[0] == 48) from rfl, u8_eq]
        rfl
      rw [e2]
      rfl
    clear hg0 hl
    have HS : Hid (s.data.toList.take s.size = s.data.toList) := List.take_of_length_le (by simp)
    by_cases h48 : (s[0].toNat : Int) = 48 ∧ 1 < s.size
    · obtain ⟨h48, h2⟩ := h48
      have h1 : decide ((1 : Int) < (s.size : Int)) = true := by simp; omega
      have h1' : decide (1 < s.size) = true := by simp; omega
      have HR : Hid (false = decB s.data.toList) := by rw [HA.out]; have : s[0].toNat = 48 := by omega
                                                       simp [Hid, this, h2]
      clear he3
      go_enter Tryz.func100, Tryz.ntmps100
      go_wp2_with fail
      go_ret
      exact ⟨ret_b HR.out, rfl⟩
    · have HR : Hid (decB s.data.toList = s.data.toList.all isDig) := by
        rw [HA.out]
        unfold Hid
        by_cases e : s[0].toNat = 48
        · have : ¬ 1 < s.size := fun h => h48 ⟨by omega, h⟩
          simp [this]
        · simp [e]
      have HT : Hid (s[0].toNat ≠ 48 ∨ s.size = 1) := by
        by_cases e : s[0].toNat = 48
        · right
          have : ¬ 1 < s.size := fun h => h48 ⟨by omega, h⟩
          omega
        · exact .inl e
      clear he3 HA h48
      rcases HT.out with h48 | h48
      · have hb48 : ((s[0].toNat : Int) == 48) = false := by simp; omega
        go_enter Tryz.func100, Tryz.ntmps100
        go_wp2_with fail
        go_loop [3, 18] (fun _ i => ∃ k : Nat, k ≤ s.size ∧ i = .int .i64 (k : Int) ∧ Hid ((s.data.toList.take k).all isDig = true)) (fun _ i => s.size - (intOf i).toNat)
        case atStart => exact ⟨0, by omega, rfl, rfl⟩
        case round =>
          obtain ⟨k, hk, rfl, HK⟩ := hrel
          by_cases hlt : k < s.size
          · have hbv : decide ((k : Int) < (s.size : Int)) = true := by simp; omega
            have hbv2 : decide (k < s.size) = true := by simp; omega
            have hz0 : (0 : Int) ≤ (k : Int) := by omega
            have hzn : (k : Int) < (s.size : Int) := by omega
            have HN1 := Lib.hid (all_take_succ (p := isDig) hlt)
            by_cases hd : isDig s[k] = true
            · have hd2 := dig_lo hd
              have a1 : decide ((s[k].toNat : Int) < 48) = false := by simp; omega
              have a2 : decide ((57 : Int) < (s[k].toNat : Int)) = false := by simp; omega
              have b1 : decide (s[k].toNat < 48) = false := by simp; omega
              have b2 : decide (57 < s[k].toNat) = false := by simp; omega
              have HG : Hid ((s.data.toList.take (k + 1)).all isDig = true) := by unfold Hid; rw [HN1.out, HK.out, hd]; rfl
              clear hd hd2
              go_wp2_with fail
              go_round
              case rel => exact ⟨k + 1, by omega, by go_num, HG⟩
              case measure => simp [intOf]; omega
            · have HF := Lib.hid (show false = decB s.data.toList from (HR.out.trans (Bool.eq_false_iff.2 fun h => hd (List.all_eq_true.1 h _ (by rw [show s[k] = s.data.toList[k]'(by simpa using hlt) from rfl]; exact List.getElem_mem _)))).symm)
              have hd3 : s[k].toNat < 48 ∨ 57 < s[k].toNat := by
                rcases Nat.lt_or_ge s[k].toNat 48 with h | h
                · exact .inl h
                · rcases Nat.lt_or_ge 57 s[k].toNat with h2 | h2
                  · exact .inr h2
                  · exact absurd (by unfold isDig; simp; omega) hd
              clear hd
              by_cases h4 : s[k].toNat < 48
              · have a1 : decide ((s[k].toNat : Int) < 48) = true := by simp; omega
                have b1 : decide (s[k].toNat < 48) = true := by simp; omega
                clear hd3 h4
                go_wp2_with fail
                go_ret
                exact ⟨ret_b HF.out, rfl⟩
              · have a1 : decide ((s[k].toNat : Int) < 48) = false := by simp; omega
                have b1 : decide (s[k].toNat < 48) = false := by simp; omega
                have a2 : decide ((57 : Int) < (s[k].toNat : Int)) = true := by simp; omega
                have b2 : decide (57 < s[k].toNat) = true := by simp; omega
                clear hd3 h4
                go_wp2_with fail
                go_ret
                exact ⟨ret_b HF.out, rfl⟩
          · obtain rfl : k = s.size := by omega
            have hbv : decide ((s.size : Int) < (s.size : Int)) = false := by simp
            have hbv2 : decide (s.size < s.size) = false := by simp
            have HF : Hid (true = decB s.data.toList) := by
              rw [HR.out, ← HS.out]
              exact HK.out.symm
            go_wp2_with fail
            go_ret
            exact ⟨ret_b HF.out, rfl⟩
      · have h1 : decide ((1 : Int) < (s.size : Int)) = false := by simp; omega
        have h1' : decide (1 < s.size) = false := by simp; omega
        have HN : Hid (s.size = 1) := h48
        clear h48
        go_enter Tryz.func100, Tryz.ntmps100
        go_wp2_with fail
        all_goals try (exfalso; have := HN.out; omega)
        all_goals
          go_loop [3, 18] (fun _ i => ∃ k : Nat, k ≤ s.size ∧ i = .int .i64 (k : Int) ∧ Hid ((s.data.toList.take k).all isDig = true)) (fun _ i => s.size - (intOf i).toNat)
          case atStart => exact ⟨0, by omega, rfl, rfl⟩
          case round =>
            obtain ⟨k, hk, rfl, HK⟩ := hrel
            by_cases hlt : k < s.size
            · have hbv : decide ((k : Int) < (s.size : Int)) = true := by simp; omega
              have hbv2 : decide (k < s.size) = true := by simp; omega
              have hz0 : (0 : Int) ≤ (k : Int) := by omega
              have hzn : (k : Int) < (s.size : Int) := by omega
              have HN1 := Lib.hid (all_take_succ (p := isDig) hlt)
              by_cases hd : isDig s[k] = true
              · have hd2 := dig_lo hd
                have a1 : decide ((s[k].toNat : Int) < 48) = false := by simp; omega
                have a2 : decide ((57 : Int) < (s[k].toNat : Int)) = false := by simp; omega
                have b1 : decide (s[k].toNat < 48) = false := by simp; omega
                have b2 : decide (57 < s[k].toNat) = false := by simp; omega
                have HG : Hid ((s.data.toList.take (k + 1)).all isDig = true) := by unfold Hid; rw [HN1.out, HK.out, hd]; rfl
                clear hd hd2
                go_wp2_with fail
                go_round
                case rel => exact ⟨k + 1, by omega, by go_num, HG⟩
                case measure => simp [intOf]; omega
              · have HF := Lib.hid (show false = decB s.data.toList from (HR.out.trans (Bool.eq_false_iff.2 fun h => hd (List.all_eq_true.1 h _ (by rw [show s[k] = s.data.toList[k]'(by simpa using hlt) from rfl]; exact List.getElem_mem _)))).symm)
                have hd3 : s[k].toNat < 48 ∨ 57 < s[k].toNat := by
                  rcases Nat.lt_or_ge s[k].toNat 48 with h | h
                  · exact .inl h
                  · rcases Nat.lt_or_ge 57 s[k].toNat with h2 | h2
                    · exact .inr h2
                    · exact absurd (by unfold isDig; simp; omega) hd
                clear hd
                by_cases h4 : s[k].toNat < 48
                · have a1 : decide ((s[k].toNat : Int) < 48) = true := by simp; omega
                  have b1 : decide (s[k].toNat < 48) = true := by simp; omega
                  clear hd3 h4
                  go_wp2_with fail
                  go_ret
                  exact ⟨ret_b HF.out, rfl⟩
                · have a1 : decide ((s[k].toNat : Int) < 48) = false := by simp; omega
                  have b1 : decide (s[k].toNat < 48) = false := by simp; omega
                  have a2 : decide ((57 : Int) < (s[k].toNat : Int)) = true := by simp; omega
                  have b2 : decide (57 < s[k].toNat) = true := by simp; omega
                  clear hd3 h4
                  go_wp2_with fail
                  go_ret
                  exact ⟨ret_b HF.out, rfl⟩
            · obtain rfl : k = s.size := by omega
              have hbv : decide ((s.size : Int) < (s.size : Int)) = false := by simp
              have hbv2 : decide (s.size < s.size) = false := by simp
              have HF : Hid (true = decB s.data.toList) := by
                rw [HR.out, ← HS.out]
                exact HK.out.symm
              go_wp2_with fail
              go_ret
              exact ⟨ret_b HF.out, rfl⟩
  · have HR : Hid (false = decB s.data.toList) := by
      unfold Hid decB allC
      cases h2 : s.data.toList with
      | nil => rfl
      | cons x xs => rw [h2] at hl; simp at hl; omega
    have hz : s.size = 0 := by omega
    have hn : s.toList = [] := by
      rw [ByteArray.toList_eq]
      exact List.length_eq_zero_iff.1 (by rw [hl]; exact hz)
    clear hl hz h0
    go_enter Tryz.func100, Tryz.ntmps100
    go_wp2_with fail
    go_ret
    exact ⟨ret_b HR.out, rfl⟩

end Go.Proofs.YtnofbjcikfofgaaGreat
