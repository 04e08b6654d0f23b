/- Contracts of token's classes of bytes: each closure answers whether a byte is in the class; end gives the first offset that is not in the class; all says whether a text is not empty and in the class. Printed by gen_txc.py. -/
import Derived.Test.YtnofbjcikfofgaaGreatTxP
namespace Go.Proofs.YtnofbjcikfofgaaGreat
open Go.RowKit

theorem ret_b {a b : Bool} (h : a = b) : Ending.returned (.bool a) = .returned (.bool b) := by rw [h]
def lowN (x : Nat) : Bool := decide (97 ≤ x) && decide (x ≤ 122)
def digN (x : Nat) : Bool := decide (48 ≤ x) && decide (x ≤ 57)
def sepN (x : Nat) : Bool := decide (x = 32) || decide (x = 10)
def numN (x : Nat) : Bool := digN x || (decide (x = 45) || decide (x = 47))
def runN (x : Nat) : Bool := lowN x || numN x
theorem u8_eq (c : UInt8) (k : UInt8) : (c == k) = decide (c.toNat = k.toNat) := by
  by_cases h : c = k
  · subst h; simp
  · have : c.toNat ≠ k.toNat := fun e => h (UInt8.toNat_inj.1 e)
    simp [h, this]
theorem isLow_n (c : UInt8) : isLow c = lowN c.toNat := rfl
theorem isSep_n (c : UInt8) : isSep c = sepN c.toNat := by unfold isSep sepN; rw [u8_eq, u8_eq]; rfl
theorem isNumr_n (c : UInt8) : isNumr c = numN c.toNat := by unfold isNumr numN isDig digN; rw [u8_eq, u8_eq]; rfl
theorem isRun_n (c : UInt8) : isRun c = runN c.toNat := by unfold isRun runN; rw [isLow_n, isNumr_n]

set_option maxHeartbeats 2000000 in
theorem clow_any (x : Nat) (w : World) : Calls Tryz.prog 56 #[.int .u8 (x : Int)] w fun e w' => e = .returned (.bool (lowN x)) ∧ w = w' := by
  by_cases h1 : 97 ≤ x
  · have a1 : decide ((97 : Int) ≤ (x : Int)) = true := by simp; omega
    have b1 : decide (97 ≤ x) = true := by simp; omega
    by_cases h2 : x ≤ 122
    · have a2 : decide ((x : Int) ≤ (122 : Int)) = true := by simp; omega
      have b2 : decide (x ≤ 122) = true := by simp; omega
      have HR : Hid (lowN x = true) := by unfold Hid lowN; simp; omega
      go_enter Tryz.func56, Tryz.ntmps56
      go_wp2_with fail
      go_ret
      exact ⟨ret_b (by rw [HR.out]), rfl⟩
    · have a2 : decide ((x : Int) ≤ (122 : Int)) = false := by simp; omega
      have b2 : decide (x ≤ 122) = false := by simp; omega
      have HR : Hid (lowN x = false) := by unfold Hid lowN; simp; omega
      go_enter Tryz.func56, Tryz.ntmps56
      go_wp2_with fail
      go_ret
      exact ⟨ret_b (by rw [HR.out]), rfl⟩
  · have a1 : decide ((97 : Int) ≤ (x : Int)) = false := by simp; omega
    have b1 : decide (97 ≤ x) = false := by simp; omega
    have HR : Hid (lowN x = false) := by unfold Hid lowN; simp; omega
    go_enter Tryz.func56, Tryz.ntmps56
    go_wp2_with fail
    go_ret
    exact ⟨ret_b (by rw [HR.out]), rfl⟩
set_option maxHeartbeats 2000000 in
theorem csep_any (x : Nat) (w : World) : Calls Tryz.prog 90 #[.int .u8 (x : Int)] w fun e w' => e = .returned (.bool (sepN x)) ∧ w = w' := by
  by_cases h1 : x = 32
  · have a1 : ((x : Int) == 32) = true := by simp; omega
    have HR : Hid (sepN x = true) := by unfold Hid sepN; simp; omega
    go_enter Tryz.func90, Tryz.ntmps90
    go_wp2_with fail
    go_ret
    exact ⟨ret_b (by rw [HR.out]), rfl⟩
  · have a1 : ((x : Int) == 32) = false := by simp; omega
    by_cases h2 : x = 10
    · have a2 : ((x : Int) == 10) = true := by simp; omega
      have HR : Hid (sepN x = true) := by unfold Hid sepN; simp; omega
      go_enter Tryz.func90, Tryz.ntmps90
      go_wp2_with fail
      go_ret
      exact ⟨ret_b (by rw [HR.out]), rfl⟩
    · have a2 : ((x : Int) == 10) = false := by simp; omega
      have HR : Hid (sepN x = false) := by unfold Hid sepN; simp; omega
      go_enter Tryz.func90, Tryz.ntmps90
      go_wp2_with fail
      go_ret
      exact ⟨ret_b (by rw [HR.out]), rfl⟩
set_option maxHeartbeats 2000000 in
theorem cnum_any (x : Nat) (w : World) : Calls Tryz.prog 92 #[.int .u8 (x : Int)] w fun e w' => e = .returned (.bool (numN x)) ∧ w = w' := by
  by_cases h1 : 48 ≤ x
  · have a1 : decide ((48 : Int) ≤ (x : Int)) = true := by simp; omega
    have b1 : decide (48 ≤ x) = true := by simp; omega
    by_cases h2 : x ≤ 57
    · have a2 : decide ((x : Int) ≤ (57 : Int)) = true := by simp; omega
      have b2 : decide (x ≤ 57) = true := by simp; omega
      have HR : Hid (numN x = true) := by unfold Hid numN digN; simp; omega
      go_enter Tryz.func92, Tryz.ntmps92
      go_wp2_with fail
      go_ret
      exact ⟨ret_b (by rw [HR.out]), rfl⟩
    · have a2 : decide ((x : Int) ≤ (57 : Int)) = false := by simp; omega
      have b2 : decide (x ≤ 57) = false := by simp; omega
      by_cases h3 : x = 45
      · have a3 : ((x : Int) == 45) = true := by simp; omega
        have HR : Hid (numN x = true) := by unfold Hid numN digN; simp; omega
        go_enter Tryz.func92, Tryz.ntmps92
        go_wp2_with fail
        go_ret
        exact ⟨ret_b (by rw [HR.out]), rfl⟩
      · have a3 : ((x : Int) == 45) = false := by simp; omega
        by_cases h4 : x = 47
        · have a4 : ((x : Int) == 47) = true := by simp; omega
          have HR : Hid (numN x = true) := by unfold Hid numN digN; simp; omega
          go_enter Tryz.func92, Tryz.ntmps92
          go_wp2_with fail
          go_ret
          exact ⟨ret_b (by rw [HR.out]), rfl⟩
        · have a4 : ((x : Int) == 47) = false := by simp; omega
          have HR : Hid (numN x = false) := by unfold Hid numN digN; simp; omega
          go_enter Tryz.func92, Tryz.ntmps92
          go_wp2_with fail
          go_ret
          exact ⟨ret_b (by rw [HR.out]), rfl⟩
  · have a1 : decide ((48 : Int) ≤ (x : Int)) = false := by simp; omega
    have b1 : decide (48 ≤ x) = false := by simp; omega
    by_cases h3 : x = 45
    · have a3 : ((x : Int) == 45) = true := by simp; omega
      have HR : Hid (numN x = true) := by unfold Hid numN digN; simp; omega
      go_enter Tryz.func92, Tryz.ntmps92
      go_wp2_with fail
      go_ret
      exact ⟨ret_b (by rw [HR.out]), rfl⟩
    · have a3 : ((x : Int) == 45) = false := by simp; omega
      by_cases h4 : x = 47
      · have a4 : ((x : Int) == 47) = true := by simp; omega
        have HR : Hid (numN x = true) := by unfold Hid numN digN; simp; omega
        go_enter Tryz.func92, Tryz.ntmps92
        go_wp2_with fail
        go_ret
        exact ⟨ret_b (by rw [HR.out]), rfl⟩
      · have a4 : ((x : Int) == 47) = false := by simp; omega
        have HR : Hid (numN x = false) := by unfold Hid numN digN; simp; omega
        go_enter Tryz.func92, Tryz.ntmps92
        go_wp2_with fail
        go_ret
        exact ⟨ret_b (by rw [HR.out]), rfl⟩
abbrev fnV (f : FuncId) : Value := .func (.func f) #[] #[]
set_option maxHeartbeats 1000000 in
theorem letters_any (w : World) : Calls Tryz.prog 34 #[] w fun e w' => e = .returned (.agg #[fnV 56]) ∧ Ext w w' := by
  go_enter Tryz.func34, Tryz.ntmps34
  go_wp2_with fail
  refine bodyPost_ret (v := .agg #[fnV 56]) (by simp [results, Tryz.results34, go_sem]) rfl ⟨rfl, ?_⟩
  exact Ext.al Ext.rfl' _

set_option maxHeartbeats 1000000 in
theorem numerals_any (w : World) : Calls Tryz.prog 70 #[] w fun e w' => e = .returned (.agg #[fnV 92]) ∧ Ext w w' := by
  go_enter Tryz.func70, Tryz.ntmps70
  go_wp2_with fail
  refine bodyPost_ret (v := .agg #[fnV 92]) (by simp [results, Tryz.results70, go_sem]) rfl ⟨rfl, ?_⟩
  exact Ext.al Ext.rfl' _

set_option maxHeartbeats 1000000 in
theorem separators_any (w : World) : Calls Tryz.prog 68 #[] w fun e w' => e = .returned (.agg #[fnV 90]) ∧ Ext w w' := by
  go_enter Tryz.func68, Tryz.ntmps68
  go_wp2_with fail
  refine bodyPost_ret (v := .agg #[fnV 90]) (by simp [results, Tryz.results68, go_sem]) rfl ⟨rfl, ?_⟩
  exact Ext.al Ext.rfl' _

set_option maxHeartbeats 1000000 in
theorem runs_any (w : World) : Calls Tryz.prog 69 #[] w fun e w' => e = .returned (.agg #[fnV 91]) ∧ Ext w w' := by
  go_enter Tryz.func69, Tryz.ntmps69
  go_wp2_with fail
  refine bodyPost_ret (v := .agg #[fnV 91]) (by simp [results, Tryz.results69, go_sem]) rfl ⟨rfl, ?_⟩
  exact Ext.al Ext.rfl' _

set_option maxRecDepth 100000 in
set_option maxHeartbeats 2000000 in
theorem crun_any (x : Nat) (w : World) : Calls Tryz.prog 91 #[.int .u8 (x : Int)] w fun e w' => e = .returned (.bool (runN x)) ∧ Ext w w' := by
  have hr : runN x = (lowN x || numN x) := rfl
  have HR := Lib.hid hr
  clear hr
  obtain ⟨b, hb⟩ : ∃ b, lowN x = b := ⟨_, rfl⟩
  have HB := Lib.hid hb
  clear hb
  have hfd1 : ∀ w : World, (Instr.field 82 (.agg #[fnV 56]) 0).run Tryz.prog w = .ok (fnV 56) w := fun _ => by kernel_rfl
  have hfd2 : ∀ w : World, (Instr.field 82 (.agg #[fnV 92]) 0).run Tryz.prog w = .ok (fnV 92) w := fun _ => by kernel_rfl
  go_enter Tryz.func91, Tryz.ntmps91
  go_wp2_with fail
  refine (letters_any _).mono ?_
  rintro e w1 ⟨rfl, hE1⟩
  go_wp2_with fail
  refine (clow_any x _).mono ?_
  rintro e w2 ⟨rfl, rfl⟩
  rw [HB.out]
  cases b
  · go_wp2_with fail
    refine (numerals_any _).mono ?_
    rintro e w2 ⟨rfl, hE2⟩
    go_wp2_with fail
    refine (cnum_any x _).mono ?_
    rintro e w3 ⟨rfl, rfl⟩
    go_wp2_with fail
    go_ret
    exact ⟨ret_b (by rw [HR.out, HB.out]; rfl), Ext.trans hE1 hE2⟩
  · go_wp2_with fail
    go_ret
    exact ⟨ret_b (by rw [HR.out, HB.out]; rfl), hE1⟩

theorem endC_go {p : UInt8 → Bool} {s : ByteArray} {k : Nat} (h : k < s.size) (hp : p s[k] = true) : endC p s.data.toList (k + 1) = endC p s.data.toList k := by
  have h' : k < s.data.toList.length := by simpa using h
  unfold endC
  rw [List.drop_eq_getElem_cons h', List.takeWhile_cons_of_pos (show p s.data.toList[k] = true from hp)]
  simp; omega
theorem endC_stop {p : UInt8 → Bool} {s : ByteArray} {k : Nat} (h : k < s.size) (hp : p s[k] = false) : endC p s.data.toList k = k := by
  have h' : k < s.data.toList.length := by simpa using h
  unfold endC
  rw [List.drop_eq_getElem_cons h', List.takeWhile_cons_of_neg (by rw [show s.data.toList[k] = s[k] from rfl, hp]; simp)]
  simp
theorem endC_end {p : UInt8 → Bool} {s : ByteArray} {k : Nat} (h : s.size ≤ k) : endC p s.data.toList k = k := by
  unfold endC
  rw [List.drop_of_length_le (by simpa using h)]
  simp

set_option maxRecDepth 100000 in
set_option maxHeartbeats 4000000 in
theorem end_low_any (s : ByteArray) (k : Nat) (w : World) (hs : s.size ≤ maxLen) (hk : k ≤ s.size) :
    Calls Tryz.prog 57 #[.agg #[fnV 56], .string s, .int .i64 (k : Int)] w fun e w' => e = .returned (.int .i64 (endC isLow s.data.toList k : Nat)) ∧ Ext w w' := by
  unfold maxLen at hs
  obtain ⟨E, hE0⟩ : ∃ E, endC isLow s.data.toList k = E := ⟨_, rfl⟩
  rw [hE0]
  have HE := Lib.hid hE0
  clear hE0
  go_enter Tryz.func57, Tryz.ntmps57
  go_wp2_with fail
  have hE : Ext w (w.alloc (.cells #[fnV 56] 82)) := Ext.al Ext.rfl' _
  have d0 : (w.alloc (.cells #[fnV 56] 82)).cell? ⟨w.heap.size, 0, none⟩ = some (fnV 56) := by simp [go_sem]
  obtain ⟨g, hg⟩ : ∃ g, w.heap.size = g := ⟨_, rfl⟩
  rw [hg] at d0 ⊢
  generalize w.alloc (.cells #[fnV 56] 82) = w1 at *
  have HD := Lib.hid d0
  have HX := Lib.hid hE
  clear d0 hE hg
  go_step3
  go_wp2_with fail
  go_step3
  go_wp2_with fail
  go_loopw [2] (fun i wr => ∃ j : Nat, j ≤ s.size ∧ i = .int .i64 (j : Int) ∧ Hid (Ext w1 wr) ∧ Hid (endC isLow s.data.toList j = E)) (fun i _ => s.size - (intOf i).toNat)
  case atStart => exact ⟨k, hk, rfl, Ext.rfl', HE.out⟩
  case round =>
    obtain ⟨j, hj, rfl, HR, HJ⟩ := hrel
    by_cases hlt : j < s.size
    · have hbv : decide ((j : Int) < (s.size : Int)) = true := by simp; omega
      have hbv2 : decide (j < s.size) = true := by simp; omega
      have hz0 : (0 : Int) ≤ (j : Int) := by omega
      have hzn : (j : Int) < (s.size : Int) := by omega
      have d0 := Ext.cellOf HR.out HD.out
      have HC := Lib.hid (isLow_n s[j])
      have HGo := Lib.hid (fun h => (endC_go (p := isLow) hlt h).trans HJ.out)
      have HSt := Lib.hid (fun h => (endC_stop (p := isLow) hlt h).symm.trans HJ.out)
      have x0 := fun x : ExtOf wr => x.cell d0
      clear d0
      go_wp2_with fail
      refine wp_region_ext (by kernel_rfl) (by kernel_rfl) ?_
      repeat (go_big_quiet_step (exact ext_call ((clow_any _ _).mono fun _ _ ⟨he, hw⟩ => ⟨he, hw ▸ Ext.rfl'⟩)))
      refine wpQuiet_nil ?_
      rintro _ ⟨x, rfl⟩
      have HXX := Lib.hid (Ext.trans HR.out x.h)
      clear x0
      generalize x.w = w2 at *
      rw [← HC.out]
      obtain ⟨b, hb⟩ : ∃ b, isLow s[j] = b := ⟨_, rfl⟩
      rw [hb]
      rw [hb] at HGo HSt
      clear hb HC
      cases b
      · go_wp2_with fail
        go_ret
        exact ⟨ret_i64 (by rw [HSt.out (by trivial)]), Ext.trans HX.out HXX.out⟩
      · go_wp2_with fail
        go_roundw
        case rel => exact ⟨j + 1, by omega, by go_num, HXX.out, HGo.out (by trivial)⟩
        case measure => simp [intOf]; omega
    · have hbv : decide ((j : Int) < (s.size : Int)) = false := by simp; omega
      have hbv2 : decide (j < s.size) = false := by simp; omega
      have HN := Lib.hid ((endC_end (p := isLow) (s := s) (k := j) (by omega)).symm.trans HJ.out)
      go_wp2_with fail
      rw [Exit.noGoto_ret]
      go_ret
      exact ⟨ret_i64 (by rw [HN.out]), Ext.trans HX.out HR.out⟩

set_option maxRecDepth 100000 in
set_option maxHeartbeats 4000000 in
theorem end_num_any (s : ByteArray) (k : Nat) (w : World) (hs : s.size ≤ maxLen) (hk : k ≤ s.size) :
    Calls Tryz.prog 57 #[.agg #[fnV 92], .string s, .int .i64 (k : Int)] w fun e w' => e = .returned (.int .i64 (endC isNumr s.data.toList k : Nat)) ∧ Ext w w' := by
  unfold maxLen at hs
  obtain ⟨E, hE0⟩ : ∃ E, endC isNumr s.data.toList k = E := ⟨_, rfl⟩
  rw [hE0]
  have HE := Lib.hid hE0
  clear hE0
  go_enter Tryz.func57, Tryz.ntmps57
  go_wp2_with fail
  have hE : Ext w (w.alloc (.cells #[fnV 92] 82)) := Ext.al Ext.rfl' _
  have d0 : (w.alloc (.cells #[fnV 92] 82)).cell? ⟨w.heap.size, 0, none⟩ = some (fnV 92) := by simp [go_sem]
  obtain ⟨g, hg⟩ : ∃ g, w.heap.size = g := ⟨_, rfl⟩
  rw [hg] at d0 ⊢
  generalize w.alloc (.cells #[fnV 92] 82) = w1 at *
  have HD := Lib.hid d0
  have HX := Lib.hid hE
  clear d0 hE hg
  go_step3
  go_wp2_with fail
  go_step3
  go_wp2_with fail
  go_loopw [2] (fun i wr => ∃ j : Nat, j ≤ s.size ∧ i = .int .i64 (j : Int) ∧ Hid (Ext w1 wr) ∧ Hid (endC isNumr s.data.toList j = E)) (fun i _ => s.size - (intOf i).toNat)
  case atStart => exact ⟨k, hk, rfl, Ext.rfl', HE.out⟩
  case round =>
    obtain ⟨j, hj, rfl, HR, HJ⟩ := hrel
    by_cases hlt : j < s.size
    · have hbv : decide ((j : Int) < (s.size : Int)) = true := by simp; omega
      have hbv2 : decide (j < s.size) = true := by simp; omega
      have hz0 : (0 : Int) ≤ (j : Int) := by omega
      have hzn : (j : Int) < (s.size : Int) := by omega
      have d0 := Ext.cellOf HR.out HD.out
      have HC := Lib.hid (isNumr_n s[j])
      have HGo := Lib.hid (fun h => (endC_go (p := isNumr) hlt h).trans HJ.out)
      have HSt := Lib.hid (fun h => (endC_stop (p := isNumr) hlt h).symm.trans HJ.out)
      have x0 := fun x : ExtOf wr => x.cell d0
      clear d0
      go_wp2_with fail
      refine wp_region_ext (by kernel_rfl) (by kernel_rfl) ?_
      repeat (go_big_quiet_step (exact ext_call ((cnum_any _ _).mono fun _ _ ⟨he, hw⟩ => ⟨he, hw ▸ Ext.rfl'⟩)))
      refine wpQuiet_nil ?_
      rintro _ ⟨x, rfl⟩
      have HXX := Lib.hid (Ext.trans HR.out x.h)
      clear x0
      generalize x.w = w2 at *
      rw [← HC.out]
      obtain ⟨b, hb⟩ : ∃ b, isNumr s[j] = b := ⟨_, rfl⟩
      rw [hb]
      rw [hb] at HGo HSt
      clear hb HC
      cases b
      · go_wp2_with fail
        go_ret
        exact ⟨ret_i64 (by rw [HSt.out (by trivial)]), Ext.trans HX.out HXX.out⟩
      · go_wp2_with fail
        go_roundw
        case rel => exact ⟨j + 1, by omega, by go_num, HXX.out, HGo.out (by trivial)⟩
        case measure => simp [intOf]; omega
    · have hbv : decide ((j : Int) < (s.size : Int)) = false := by simp; omega
      have hbv2 : decide (j < s.size) = false := by simp; omega
      have HN := Lib.hid ((endC_end (p := isNumr) (s := s) (k := j) (by omega)).symm.trans HJ.out)
      go_wp2_with fail
      rw [Exit.noGoto_ret]
      go_ret
      exact ⟨ret_i64 (by rw [HN.out]), Ext.trans HX.out HR.out⟩

set_option maxRecDepth 100000 in
set_option maxHeartbeats 4000000 in
theorem end_sep_any (s : ByteArray) (k : Nat) (w : World) (hs : s.size ≤ maxLen) (hk : k ≤ s.size) :
    Calls Tryz.prog 57 #[.agg #[fnV 90], .string s, .int .i64 (k : Int)] w fun e w' => e = .returned (.int .i64 (endC isSep s.data.toList k : Nat)) ∧ Ext w w' := by
  unfold maxLen at hs
  obtain ⟨E, hE0⟩ : ∃ E, endC isSep s.data.toList k = E := ⟨_, rfl⟩
  rw [hE0]
  have HE := Lib.hid hE0
  clear hE0
  go_enter Tryz.func57, Tryz.ntmps57
  go_wp2_with fail
  have hE : Ext w (w.alloc (.cells #[fnV 90] 82)) := Ext.al Ext.rfl' _
  have d0 : (w.alloc (.cells #[fnV 90] 82)).cell? ⟨w.heap.size, 0, none⟩ = some (fnV 90) := by simp [go_sem]
  obtain ⟨g, hg⟩ : ∃ g, w.heap.size = g := ⟨_, rfl⟩
  rw [hg] at d0 ⊢
  generalize w.alloc (.cells #[fnV 90] 82) = w1 at *
  have HD := Lib.hid d0
  have HX := Lib.hid hE
  clear d0 hE hg
  go_step3
  go_wp2_with fail
  go_step3
  go_wp2_with fail
  go_loopw [2] (fun i wr => ∃ j : Nat, j ≤ s.size ∧ i = .int .i64 (j : Int) ∧ Hid (Ext w1 wr) ∧ Hid (endC isSep s.data.toList j = E)) (fun i _ => s.size - (intOf i).toNat)
  case atStart => exact ⟨k, hk, rfl, Ext.rfl', HE.out⟩
  case round =>
    obtain ⟨j, hj, rfl, HR, HJ⟩ := hrel
    by_cases hlt : j < s.size
    · have hbv : decide ((j : Int) < (s.size : Int)) = true := by simp; omega
      have hbv2 : decide (j < s.size) = true := by simp; omega
      have hz0 : (0 : Int) ≤ (j : Int) := by omega
      have hzn : (j : Int) < (s.size : Int) := by omega
      have d0 := Ext.cellOf HR.out HD.out
      have HC := Lib.hid (isSep_n s[j])
      have HGo := Lib.hid (fun h => (endC_go (p := isSep) hlt h).trans HJ.out)
      have HSt := Lib.hid (fun h => (endC_stop (p := isSep) hlt h).symm.trans HJ.out)
      have x0 := fun x : ExtOf wr => x.cell d0
      clear d0
      go_wp2_with fail
      refine wp_region_ext (by kernel_rfl) (by kernel_rfl) ?_
      repeat (go_big_quiet_step (exact ext_call ((csep_any _ _).mono fun _ _ ⟨he, hw⟩ => ⟨he, hw ▸ Ext.rfl'⟩)))
      refine wpQuiet_nil ?_
      rintro _ ⟨x, rfl⟩
      have HXX := Lib.hid (Ext.trans HR.out x.h)
      clear x0
      generalize x.w = w2 at *
      rw [← HC.out]
      obtain ⟨b, hb⟩ : ∃ b, isSep s[j] = b := ⟨_, rfl⟩
      rw [hb]
      rw [hb] at HGo HSt
      clear hb HC
      cases b
      · go_wp2_with fail
        go_ret
        exact ⟨ret_i64 (by rw [HSt.out (by trivial)]), Ext.trans HX.out HXX.out⟩
      · go_wp2_with fail
        go_roundw
        case rel => exact ⟨j + 1, by omega, by go_num, HXX.out, HGo.out (by trivial)⟩
        case measure => simp [intOf]; omega
    · have hbv : decide ((j : Int) < (s.size : Int)) = false := by simp; omega
      have hbv2 : decide (j < s.size) = false := by simp; omega
      have HN := Lib.hid ((endC_end (p := isSep) (s := s) (k := j) (by omega)).symm.trans HJ.out)
      go_wp2_with fail
      rw [Exit.noGoto_ret]
      go_ret
      exact ⟨ret_i64 (by rw [HN.out]), Ext.trans HX.out HR.out⟩

set_option maxRecDepth 100000 in
set_option maxHeartbeats 4000000 in
theorem end_run_any (s : ByteArray) (k : Nat) (w : World) (hs : s.size ≤ maxLen) (hk : k ≤ s.size) :
    Calls Tryz.prog 57 #[.agg #[fnV 91], .string s, .int .i64 (k : Int)] w fun e w' => e = .returned (.int .i64 (endC isRun s.data.toList k : Nat)) ∧ Ext w w' := by
  unfold maxLen at hs
  obtain ⟨E, hE0⟩ : ∃ E, endC isRun s.data.toList k = E := ⟨_, rfl⟩
  rw [hE0]
  have HE := Lib.hid hE0
  clear hE0
  go_enter Tryz.func57, Tryz.ntmps57
  go_wp2_with fail
  have hE : Ext w (w.alloc (.cells #[fnV 91] 82)) := Ext.al Ext.rfl' _
  have d0 : (w.alloc (.cells #[fnV 91] 82)).cell? ⟨w.heap.size, 0, none⟩ = some (fnV 91) := by simp [go_sem]
  obtain ⟨g, hg⟩ : ∃ g, w.heap.size = g := ⟨_, rfl⟩
  rw [hg] at d0 ⊢
  generalize w.alloc (.cells #[fnV 91] 82) = w1 at *
  have HD := Lib.hid d0
  have HX := Lib.hid hE
  clear d0 hE hg
  go_step3
  go_wp2_with fail
  go_step3
  go_wp2_with fail
  go_loopw [2] (fun i wr => ∃ j : Nat, j ≤ s.size ∧ i = .int .i64 (j : Int) ∧ Hid (Ext w1 wr) ∧ Hid (endC isRun s.data.toList j = E)) (fun i _ => s.size - (intOf i).toNat)
  case atStart => exact ⟨k, hk, rfl, Ext.rfl', HE.out⟩
  case round =>
    obtain ⟨j, hj, rfl, HR, HJ⟩ := hrel
    by_cases hlt : j < s.size
    · have hbv : decide ((j : Int) < (s.size : Int)) = true := by simp; omega
      have hbv2 : decide (j < s.size) = true := by simp; omega
      have hz0 : (0 : Int) ≤ (j : Int) := by omega
      have hzn : (j : Int) < (s.size : Int) := by omega
      have d0 := Ext.cellOf HR.out HD.out
      have HC := Lib.hid (isRun_n s[j])
      have HGo := Lib.hid (fun h => (endC_go (p := isRun) hlt h).trans HJ.out)
      have HSt := Lib.hid (fun h => (endC_stop (p := isRun) hlt h).symm.trans HJ.out)
      have x0 := fun x : ExtOf wr => x.cell d0
      clear d0
      go_wp2_with fail
      refine wp_region_ext (by kernel_rfl) (by kernel_rfl) ?_
      repeat (go_big_quiet_step (exact ext_call (crun_any _ _)))
      refine wpQuiet_nil ?_
      rintro _ ⟨x, rfl⟩
      have HXX := Lib.hid (Ext.trans HR.out x.h)
      clear x0
      generalize x.w = w2 at *
      rw [← HC.out]
      obtain ⟨b, hb⟩ : ∃ b, isRun s[j] = b := ⟨_, rfl⟩
      rw [hb]
      rw [hb] at HGo HSt
      clear hb HC
      cases b
      · go_wp2_with fail
        go_ret
        exact ⟨ret_i64 (by rw [HSt.out (by trivial)]), Ext.trans HX.out HXX.out⟩
      · go_wp2_with fail
        go_roundw
        case rel => exact ⟨j + 1, by omega, by go_num, HXX.out, HGo.out (by trivial)⟩
        case measure => simp [intOf]; omega
    · have hbv : decide ((j : Int) < (s.size : Int)) = false := by simp; omega
      have hbv2 : decide (j < s.size) = false := by simp; omega
      have HN := Lib.hid ((endC_end (p := isRun) (s := s) (k := j) (by omega)).symm.trans HJ.out)
      go_wp2_with fail
      rw [Exit.noGoto_ret]
      go_ret
      exact ⟨ret_i64 (by rw [HN.out]), Ext.trans HX.out HR.out⟩

theorem allC_end (p : UInt8 → Bool) (l : Bs) : allC p l = (!l.isEmpty && decide (endC p l 0 = l.length)) := by
  unfold allC endC
  rw [List.drop_zero, Nat.zero_add]
  congr 1
  rw [Bool.eq_iff_iff, decide_eq_true_eq, List.all_eq_true]
  constructor
  · intro h
    induction l with
    | nil => rfl
    | cons x xs ih => rw [List.takeWhile_cons_of_pos (h x (by simp)), List.length_cons, List.length_cons, ih (fun c hc => h c (by simp [hc]))]
  · intro h
    induction l with
    | nil => simp
    | cons x xs ih =>
      by_cases hx : p x = true
      · rw [List.takeWhile_cons_of_pos hx, List.length_cons, List.length_cons] at h
        intro c hc
        rcases List.mem_cons.1 hc with rfl | hc
        · exact hx
        · exact ih (by omega) c hc
      · rw [List.takeWhile_cons_of_neg hx] at h
        exact absurd h (by simp)

set_option maxRecDepth 100000 in
set_option maxHeartbeats 4000000 in
theorem all_low_any (s : ByteArray) (w : World) (hs : s.size ≤ maxLen) :
    Calls Tryz.prog 35 #[.agg #[fnV 56], .string s] w fun e w' => e = .returned (.bool (allC isLow s.data.toList)) ∧ Ext w w' := by
  go_enter Tryz.func35, Tryz.ntmps35
  go_wp2_with fail
  · have hn : s.data.toList = [] := (ByteArray.toList_eq s).symm.trans ‹s.toList = []›
    go_ret
    exact ⟨ret_b (by rw [hn]; rfl), Ext.al Ext.rfl' _⟩
  · have hn : s.data.toList.isEmpty = false := by
      have : ¬ s.toList = [] := by assumption
      rw [ByteArray.toList_eq] at this
      cases h : s.data.toList with
      | nil => exact absurd h this
      | cons => rfl
    have HN := Lib.hid hn
    have hn2 : (!s.toList.isEmpty) = true := by rw [ByteArray.toList_eq, hn]; rfl
    have HN2 := Lib.hid hn2
    clear hn hn2
    refine (end_low_any s 0 _ hs (Nat.zero_le _)).mono ?_
    rintro e w1 ⟨rfl, hE⟩
    have HE : Hid (Ext w w1) := Ext.trans (Ext.al Ext.rfl' _) hE
    clear hE
    have hd := allC_end isLow s.data.toList
    rw [HN.out] at hd
    have HD := Lib.hid hd
    clear hd
    have hsz : s.data.toList.length = s.size := by simp
    rw [hsz] at HD
    clear hsz
    obtain ⟨k, hk⟩ : ∃ k, endC isLow s.data.toList 0 = k := ⟨_, rfl⟩
    rw [hk] at HD ⊢
    clear hk
    by_cases h : k = s.size
    · have h1 : ((k : Int) == (s.size : Int)) = true := by simp; omega
      have HR : Hid (true = allC isLow s.data.toList) := by rw [HD.out]; simp [Hid, h]
      clear h
      go_wp2_with fail
      go_ret
      exact ⟨ret_b (by first | exact HR.out | (rw [HN2.out]; exact HR.out)), HE.out⟩
    · have h1 : ((k : Int) == (s.size : Int)) = false := by simp; omega
      have h2 : (k == s.size) = false := by simp; omega
      have HR : Hid (false = allC isLow s.data.toList) := by rw [HD.out]; simp [Hid, h]
      clear h
      go_wp2_with fail
      go_ret
      exact ⟨ret_b (by first | exact HR.out | (rw [HN2.out]; exact HR.out)), HE.out⟩

set_option maxRecDepth 100000 in
set_option maxHeartbeats 4000000 in
theorem all_num_any (s : ByteArray) (w : World) (hs : s.size ≤ maxLen) :
    Calls Tryz.prog 35 #[.agg #[fnV 92], .string s] w fun e w' => e = .returned (.bool (allC isNumr s.data.toList)) ∧ Ext w w' := by
  go_enter Tryz.func35, Tryz.ntmps35
  go_wp2_with fail
  · have hn : s.data.toList = [] := (ByteArray.toList_eq s).symm.trans ‹s.toList = []›
    go_ret
    exact ⟨ret_b (by rw [hn]; rfl), Ext.al Ext.rfl' _⟩
  · have hn : s.data.toList.isEmpty = false := by
      have : ¬ s.toList = [] := by assumption
      rw [ByteArray.toList_eq] at this
      cases h : s.data.toList with
      | nil => exact absurd h this
      | cons => rfl
    have HN := Lib.hid hn
    have hn2 : (!s.toList.isEmpty) = true := by rw [ByteArray.toList_eq, hn]; rfl
    have HN2 := Lib.hid hn2
    clear hn hn2
    refine (end_num_any s 0 _ hs (Nat.zero_le _)).mono ?_
    rintro e w1 ⟨rfl, hE⟩
    have HE : Hid (Ext w w1) := Ext.trans (Ext.al Ext.rfl' _) hE
    clear hE
    have hd := allC_end isNumr s.data.toList
    rw [HN.out] at hd
    have HD := Lib.hid hd
    clear hd
    have hsz : s.data.toList.length = s.size := by simp
    rw [hsz] at HD
    clear hsz
    obtain ⟨k, hk⟩ : ∃ k, endC isNumr s.data.toList 0 = k := ⟨_, rfl⟩
    rw [hk] at HD ⊢
    clear hk
    by_cases h : k = s.size
    · have h1 : ((k : Int) == (s.size : Int)) = true := by simp; omega
      have HR : Hid (true = allC isNumr s.data.toList) := by rw [HD.out]; simp [Hid, h]
      clear h
      go_wp2_with fail
      go_ret
      exact ⟨ret_b (by first | exact HR.out | (rw [HN2.out]; exact HR.out)), HE.out⟩
    · have h1 : ((k : Int) == (s.size : Int)) = false := by simp; omega
      have h2 : (k == s.size) = false := by simp; omega
      have HR : Hid (false = allC isNumr s.data.toList) := by rw [HD.out]; simp [Hid, h]
      clear h
      go_wp2_with fail
      go_ret
      exact ⟨ret_b (by first | exact HR.out | (rw [HN2.out]; exact HR.out)), HE.out⟩

end Go.Proofs.YtnofbjcikfofgaaGreat
