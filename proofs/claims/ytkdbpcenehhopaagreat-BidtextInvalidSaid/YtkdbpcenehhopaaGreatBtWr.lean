/- The contracts of pylonref31's steps, Write and WriteBid: the text that Format would write. Printed by gen_btwr.py. -/
import Derived.Test.YtkdbpcenehhopaaGreatBtFo
import Derived.Test.YtkdbpcenehhopaaGreatRtx
namespace Go.Proofs.YtkdbpcenehhopaaGreat
open Go.RowKit
def numX (z : Int) : Bs := 32 :: fmtZ z
def stX (x : Int × Int) : Bs := [32, 40] ++ fmtZ x.1 ++ numX x.2 ++ [41]
def unitX (u : U) : Bs := [40, 117, 110, 105, 116] ++ (unitZs u).flatMap numX ++ u.steps.flatMap stX ++ [41]
def bidX (b : Int) (xs : List (Int × Int)) : Bs := [40, 98, 105, 100] ++ numX b ++ xs.flatMap stX ++ [41]
theorem piece_numT (z : Int) : pieceT (numT z) = fmtZ z := by
  show fmtZ ((z : Rat).num) = fmtZ z
  rw [Rat.num_intCast]
theorem sp_num (b : Bool) (z : Int) (r : List Tok) : spell (spaced b (numT z :: r)) = (if b then [] else [32]) ++ fmtZ z ++ spell (spaced false r) := by
  rw [spaced_cons, piece_numT]
  cases b <;> rfl
theorem sp_open (r : List Tok) : spell (spaced false (tokO :: r)) = [32, 40] ++ spell (spaced true r) := by
  rw [spaced_cons]
  rfl
theorem sp_close (b : Bool) (r : List Tok) : spell (spaced b (tokC :: r)) = [41] ++ spell (spaced false r) := by
  rw [spaced_cons]
  cases b <;> rfl
theorem sp_nums (r : List Tok) : ∀ zs : List Int, spell (spaced false (zs.map (fun (z : Int) => tokN (z : Rat)) ++ r)) = zs.flatMap numX ++ spell (spaced false r)
  | [] => rfl
  | z :: zs => by
    have h : spell (spaced false (tokN (z : Rat) :: (zs.map (fun (z : Int) => tokN (z : Rat)) ++ r))) = _ := sp_num false z (zs.map (fun (z : Int) => tokN (z : Rat)) ++ r)
    rw [sp_nums r zs] at h
    simpa [numX] using h
theorem sp_steps : ∀ xs : List (Int × Int), spell (spaced false (stepsToks xs)) = xs.flatMap stX ++ [41]
  | [] => by
    show spell (spaced false [tokC]) = _
    rw [sp_close]
    rfl
  | x :: xs => by
    have e : stepsToks (x :: xs) = tokO :: numT x.1 :: numT x.2 :: tokC :: stepsToks xs := rfl
    rw [e, sp_open, sp_num, sp_num, sp_close, sp_steps xs]
    simp [stX, numX]
theorem unitX_is (u : U) : unitX u = fmtT (unitToks u) := by
  unfold fmtT unitToks unitX
  rw [spaced_cons, spaced_cons]
  have h := sp_nums (stepsToks u.steps) (unitZs u)
  rw [sp_steps] at h
  simp [sepT, pieceT, tokO, tokW] at h ⊢
  rw [h]
theorem bidX_is (b : Int) (xs : List (Int × Int)) : bidX b xs = fmtT (bidToks b xs) := by
  unfold fmtT bidToks bidX
  rw [spaced_cons, spaced_cons]
  have h := sp_num false b (stepsToks xs)
  rw [sp_steps] at h
  simp [sepT, pieceT, tokO, tokW] at h ⊢
  rw [h]
  simp [numX]
theorem stX_len {x : Int × Int} (h : I64r x.1 ∧ I64r x.2) : (stX x).length ≤ 44 := by
  have h1 := fmtZ_len64 h.1
  have h2 := fmtZ_len64 h.2
  simp [stX, numX]
  omega
theorem stXs_len : ∀ {xs : List (Int × Int)}, (∀ x ∈ xs, I64r x.1 ∧ I64r x.2) → (xs.flatMap stX).length ≤ 44 * xs.length
  | [], _ => by simp
  | x :: xs, h => by
    have h1 := stX_len (h x List.mem_cons_self)
    have h2 := stXs_len (xs := xs) (fun y hy => h y (List.mem_cons_of_mem _ hy))
    rw [List.flatMap_cons, List.length_append, List.length_cons]
    omega
theorem stX_take {xs : List (Int × Int)} {k : Nat} (h : k < xs.length) : (xs.take (k + 1)).flatMap stX = (xs.take k).flatMap stX ++ stX (xs.getD k (0, 0)) := by
  rw [List.take_succ_eq_append_getElem h, List.flatMap_append]
  simp [List.getD, List.getElem?_eq_getElem h]
theorem add_run2 (a b : ByteArray) (h : a.size + b.size ≤ 9223372036854775807) (W : World) : (Op.stringOp .add a b).run Tryz.prog W = .ok (.string (a ++ b)) W := run_string_add_sum _ _ _ h
/-- the number's text -/
theorem num_pack (z : Int) (hz : I64r z) : ∃ N : ByteArray, N = bs (numX z) ∧ N.size ≤ 21 ∧ 1 ≤ N.size ∧ ∀ W, Calls Tryz.prog 28 #[.int .i64 z] W fun e w' => e = .returned (.string N) ∧ Ext W w' :=
  ⟨_, rfl, by rw [bs_size]; have := fmtZ_len64 hz; simp [numX]; omega, by rw [bs_size]; simp [numX], fun W => rnum31_any z W hz⟩
theorem tail_bs (z : Int) : (bs (numX z)).extract 1 (bs (numX z)).size = bs (fmtZ z) := by
  rw [ext_bs, bs_list, bs_size]
  simp [numX]
set_option maxRecDepth 100000 in
set_option maxHeartbeats 16000000 in
theorem rsteps31_any (A : Option Addr) (n c : Nat) (xs : List (Int × Int)) (w : World) (hs : StepsAt w A n xs) (hi : ∀ x ∈ xs, I64r x.1 ∧ I64r x.2) (hn : n ≤ 1000) :
    Calls Tryz.prog 29 #[.slice A n c] w fun e w' => e = .returned (.string (bs (xs.flatMap stX))) ∧ Ext w w' := by
  have HS := Lib.hid hs
  have HLN := Lib.hid hs.1
  have HI := Lib.hid hi
  clear hs hi
  go_enter Tryz.func29, Tryz.ntmps29
  go_wp2_with fail
  go_loopw [3, 4] (fun sv i wr => ∃ k : Nat, k ≤ n ∧ sv = .string (bs ((xs.take k).flatMap stX)) ∧ i = .int .i64 (k : Int) ∧ Hid (Ext w wr)) (fun _ i _ => n - (intOf i).toNat)
  case atStart => exact ⟨0, by omega, rfl, rfl, Ext.rfl'⟩
  case round =>
    obtain ⟨k, hk, rfl, rfl, HE⟩ := hrel
    by_cases hlt : k < n
    · have hbv : decide ((k : Int) < (n : Int)) = true := by simp; omega
      have hbv2 : decide (k < n) = true := by simp; omega
      have hz0 : (0 : Int) ≤ (k : Int) := by omega
      have hzn : (k : Int) < (n : Int) := by omega
      have HST := Lib.hid (stX_take (xs := xs) (k := k) (by rw [HLN.out]; exact hlt))
      have HIK := HI.out (xs.getD k (0, 0)) (by
        have hk2 : k < xs.length := by rw [HLN.out]; exact hlt
        rw [show xs.getD k (0, 0) = xs[k] by simp [List.getD, List.getElem?_eq_getElem hk2]]
        exact List.getElem_mem hk2)
      obtain ⟨sb, so, rfl, hsb, hsc⟩ := (HS.out.below HE.out).2 (by omega)
      obtain ⟨y0, y1⟩ := hsc k hlt
      obtain ⟨⟨q, p⟩, hx⟩ : ∃ x, xs.getD k (0, 0) = x := ⟨_, rfl⟩
      rw [hx] at y0 y1 HST HIK
      simp only at y0 y1 HIK
      clear hx hsc
      obtain ⟨N1, hN1, s1, s1', c1⟩ := num_pack q HIK.1
      obtain ⟨N2, hN2, s2, s2', c2⟩ := num_pack p HIK.2
      have HTS : Hid (N1.extract 1 N1.size = bs (fmtZ q)) := by unfold Hid; rw [hN1]; exact tail_bs q
      have hTz : (N1.extract 1 N1.size).size ≤ 21 := by rw [ByteArray.size_extract]; omega
      have hal : (bs ((xs.take k).flatMap stX)).size ≤ 44000 := by
        rw [bs_size]
        have h1 := stXs_len (xs := xs.take k) (fun x hx => HI.out x (List.mem_of_mem_take hx))
        rw [List.length_take] at h1
        omega
      obtain ⟨X0, hX0⟩ : ∃ X0, bs ((xs.take k).flatMap stX) = X0 := ⟨_, rfl⟩
      rw [hX0] at hal
      obtain ⟨M, hM⟩ : ∃ M, N1.extract 1 N1.size = M := ⟨_, rfl⟩
      rw [hM] at HTS hTz
      obtain ⟨X1, hX1⟩ : ∃ X1 : ByteArray, X0 ++ (⟨#[32, 40]⟩ : ByteArray) = X1 := ⟨_, rfl⟩
      have sX1 : X1.size = (X0 : ByteArray).size + ((⟨#[32, 40]⟩ : ByteArray) : ByteArray).size := by rw [← hX1, ByteArray.size_append]
      have a1 : ∀ W, (Op.stringOp .add X0 (⟨#[32, 40]⟩ : ByteArray)).run Tryz.prog W = .ok (.string X1) W := fun W => by
        rw [← hX1]
        exact add_run2 _ _ (by have : (⟨#[32, 40]⟩ : ByteArray).size = 2 := rfl; omega) W
      obtain ⟨X2, hX2⟩ : ∃ X2 : ByteArray, X1 ++ (N1.extract 1 N1.size) = X2 := ⟨_, rfl⟩
      have sX2 : X2.size = (X1 : ByteArray).size + ((N1.extract 1 N1.size) : ByteArray).size := by rw [← hX2, ByteArray.size_append]
      have a2 : ∀ W, (Op.stringOp .add X1 (N1.extract 1 N1.size)).run Tryz.prog W = .ok (.string X2) W := fun W => by
        rw [← hX2]
        exact add_run2 _ _ (by have : (⟨#[32, 40]⟩ : ByteArray).size = 2 := rfl; rw [hM]; omega) W
      obtain ⟨X3, hX3⟩ : ∃ X3 : ByteArray, X2 ++ N2 = X3 := ⟨_, rfl⟩
      have sX3 : X3.size = (X2 : ByteArray).size + (N2 : ByteArray).size := by rw [← hX3, ByteArray.size_append]
      have a3 : ∀ W, (Op.stringOp .add X2 N2).run Tryz.prog W = .ok (.string X3) W := fun W => by
        rw [← hX3]
        exact add_run2 _ _ (by have : (⟨#[32, 40]⟩ : ByteArray).size = 2 := rfl; rw [hM] at sX2; omega) W
      obtain ⟨X4, hX4⟩ : ∃ X4 : ByteArray, X3 ++ (⟨#[41]⟩ : ByteArray) = X4 := ⟨_, rfl⟩
      have sX4 : X4.size = (X3 : ByteArray).size + ((⟨#[41]⟩ : ByteArray) : ByteArray).size := by rw [← hX4, ByteArray.size_append]
      have a4 : ∀ W, (Op.stringOp .add X3 (⟨#[41]⟩ : ByteArray)).run Tryz.prog W = .ok (.string X4) W := fun W => by
        rw [← hX4]
        exact add_run2 _ _ (by have : (⟨#[32, 40]⟩ : ByteArray).size = 2 := rfl; have : (⟨#[41]⟩ : ByteArray).size = 1 := rfl; rw [hM] at sX2; omega) W
      have HX4 : Hid (X4 = bs ((xs.take (k + 1)).flatMap stX)) := by
        unfold Hid
        rw [HST.out, ← hX4, ← hX3, ← hX2, ← hX1, ← hX0, hM, HTS.out, hN2]
        rw [show (⟨#[32, 40]⟩ : ByteArray) = bs [32, 40] from rfl, show (⟨#[41]⟩ : ByteArray) = bs [41] from rfl, bs_append, bs_append, bs_append, bs_append]
        simp [stX]
      have h1N : (1 : Int) ≤ (N1.size : Int) := by omega
      rw [hX0]
      clear hX4 hX3 hX2 hX1 hM sX1 sX2 sX3 sX4 hN1 hN2 HTS hTz hal s1 s1' s2 s2'
      go_wp2_with fail
      have x0 := fun x : ExtOf wr => x.cell y0
      have x1 := fun x : ExtOf wr => x.cell y1
      clear y0 y1
      refine wp_region_ext (by kernel_rfl) (by kernel_rfl) ?_
      repeat (go_big_quiet_step (first | exact ext_call (c1 _) | exact ext_call (c2 _)))
      refine wpQuiet_nil ?_
      rintro _ ⟨x, rfl⟩
      have HX := Lib.hid x.h
      clear x0 x1
      generalize x.w = w2 at *
      go_wp2_with fail
      go_roundw
      case rel => exact ⟨k + 1, by omega, by rw [HX4.out], by go_num, Ext.trans HE.out HX.out⟩
      case measure => simp [intOf]; omega
    · obtain rfl : k = n := by omega
      have hbv : decide ((k : Int) < (k : Int)) = false := by simp
      have hbv2 : decide (k < k) = false := by simp
      have e0 : xs.take k = xs := List.take_of_length_le (by rw [HLN.out]; exact Nat.le_refl _)
      rw [e0]
      clear e0
      go_wp2_with fail
      go_ret
      exact ⟨rfl, HE.out⟩
set_option maxRecDepth 100000 in
set_option maxHeartbeats 16000000 in
theorem rwrite_any (u : U) (A : Option Addr) (n c : Nat) (w : World) (h : StepsAt w A n u.steps) (hz : ∀ z ∈ unitZs u, I64r z) (hi : ∀ x ∈ u.steps, I64r x.1 ∧ I64r x.2) (hn : n ≤ 1000) :
    Calls Tryz.prog 9 #[u.val A n c] w fun e w' => e = .returned (.string (bs (unitX u))) ∧ Ext w w' := by
  have H := Lib.hid h
  have HLN := Lib.hid h.1
  have HI := Lib.hid hi
  obtain ⟨N0, hN0, s0, -, c0⟩ := num_pack u.bus (hz _ (by simp [unitZs]))
  obtain ⟨N1, hN1, s1, -, c1⟩ := num_pack u.mn (hz _ (by simp [unitZs]))
  obtain ⟨N2, hN2, s2, -, c2⟩ := num_pack u.up (hz _ (by simp [unitZs]))
  obtain ⟨N3, hN3, s3, -, c3⟩ := num_pack u.down (hz _ (by simp [unitZs]))
  obtain ⟨N4, hN4, s4, -, c4⟩ := num_pack u.start (hz _ (by simp [unitZs]))
  obtain ⟨N5, hN5, s5, -, c5⟩ := num_pack u.idle (hz _ (by simp [unitZs]))
  obtain ⟨N6, hN6, s6, -, c6⟩ := num_pack u.spin (hz _ (by simp [unitZs]))
  obtain ⟨N7, hN7, s7, -, c7⟩ := num_pack u.on (hz _ (by simp [unitZs]))
  clear h hi hz
  obtain ⟨X0, hX0⟩ : ∃ X0 : ByteArray, (⟨#[40, 117, 110, 105, 116]⟩ : ByteArray) ++ N0 = X0 := ⟨_, rfl⟩
  have sX0 : X0.size = ((⟨#[40, 117, 110, 105, 116]⟩ : ByteArray) : ByteArray).size + (N0 : ByteArray).size := by rw [← hX0, ByteArray.size_append]
  have a0 : ∀ W, (Op.stringOp .add (⟨#[40, 117, 110, 105, 116]⟩ : ByteArray) N0).run Tryz.prog W = .ok (.string X0) W := fun W => by
    rw [← hX0]
    exact add_run2 _ _ (by have : (⟨#[40, 117, 110, 105, 116]⟩ : ByteArray).size = 5 := rfl; omega) W
  obtain ⟨X1, hX1⟩ : ∃ X1 : ByteArray, X0 ++ N1 = X1 := ⟨_, rfl⟩
  have sX1 : X1.size = (X0 : ByteArray).size + (N1 : ByteArray).size := by rw [← hX1, ByteArray.size_append]
  have a1 : ∀ W, (Op.stringOp .add X0 N1).run Tryz.prog W = .ok (.string X1) W := fun W => by
    rw [← hX1]
    exact add_run2 _ _ (by have : (⟨#[40, 117, 110, 105, 116]⟩ : ByteArray).size = 5 := rfl; omega) W
  obtain ⟨X2, hX2⟩ : ∃ X2 : ByteArray, X1 ++ N2 = X2 := ⟨_, rfl⟩
  have sX2 : X2.size = (X1 : ByteArray).size + (N2 : ByteArray).size := by rw [← hX2, ByteArray.size_append]
  have a2 : ∀ W, (Op.stringOp .add X1 N2).run Tryz.prog W = .ok (.string X2) W := fun W => by
    rw [← hX2]
    exact add_run2 _ _ (by have : (⟨#[40, 117, 110, 105, 116]⟩ : ByteArray).size = 5 := rfl; omega) W
  obtain ⟨X3, hX3⟩ : ∃ X3 : ByteArray, X2 ++ N3 = X3 := ⟨_, rfl⟩
  have sX3 : X3.size = (X2 : ByteArray).size + (N3 : ByteArray).size := by rw [← hX3, ByteArray.size_append]
  have a3 : ∀ W, (Op.stringOp .add X2 N3).run Tryz.prog W = .ok (.string X3) W := fun W => by
    rw [← hX3]
    exact add_run2 _ _ (by have : (⟨#[40, 117, 110, 105, 116]⟩ : ByteArray).size = 5 := rfl; omega) W
  obtain ⟨X4, hX4⟩ : ∃ X4 : ByteArray, X3 ++ N4 = X4 := ⟨_, rfl⟩
  have sX4 : X4.size = (X3 : ByteArray).size + (N4 : ByteArray).size := by rw [← hX4, ByteArray.size_append]
  have a4 : ∀ W, (Op.stringOp .add X3 N4).run Tryz.prog W = .ok (.string X4) W := fun W => by
    rw [← hX4]
    exact add_run2 _ _ (by have : (⟨#[40, 117, 110, 105, 116]⟩ : ByteArray).size = 5 := rfl; omega) W
  obtain ⟨X5, hX5⟩ : ∃ X5 : ByteArray, X4 ++ N5 = X5 := ⟨_, rfl⟩
  have sX5 : X5.size = (X4 : ByteArray).size + (N5 : ByteArray).size := by rw [← hX5, ByteArray.size_append]
  have a5 : ∀ W, (Op.stringOp .add X4 N5).run Tryz.prog W = .ok (.string X5) W := fun W => by
    rw [← hX5]
    exact add_run2 _ _ (by have : (⟨#[40, 117, 110, 105, 116]⟩ : ByteArray).size = 5 := rfl; omega) W
  obtain ⟨X6, hX6⟩ : ∃ X6 : ByteArray, X5 ++ N6 = X6 := ⟨_, rfl⟩
  have sX6 : X6.size = (X5 : ByteArray).size + (N6 : ByteArray).size := by rw [← hX6, ByteArray.size_append]
  have a6 : ∀ W, (Op.stringOp .add X5 N6).run Tryz.prog W = .ok (.string X6) W := fun W => by
    rw [← hX6]
    exact add_run2 _ _ (by have : (⟨#[40, 117, 110, 105, 116]⟩ : ByteArray).size = 5 := rfl; omega) W
  obtain ⟨X7, hX7⟩ : ∃ X7 : ByteArray, X6 ++ N7 = X7 := ⟨_, rfl⟩
  have sX7 : X7.size = (X6 : ByteArray).size + (N7 : ByteArray).size := by rw [← hX7, ByteArray.size_append]
  have a7 : ∀ W, (Op.stringOp .add X6 N7).run Tryz.prog W = .ok (.string X7) W := fun W => by
    rw [← hX7]
    exact add_run2 _ _ (by have : (⟨#[40, 117, 110, 105, 116]⟩ : ByteArray).size = 5 := rfl; omega) W
  obtain ⟨S, hS⟩ : ∃ S, bs (u.steps.flatMap stX) = S := ⟨_, rfl⟩
  have sS : S.size ≤ 44 * n := by
    rw [← hS, bs_size, ← HLN.out]
    exact stXs_len HI.out
  obtain ⟨X8, hX8⟩ : ∃ X8 : ByteArray, X7 ++ S = X8 := ⟨_, rfl⟩
  have sX8 : X8.size = (X7 : ByteArray).size + (S : ByteArray).size := by rw [← hX8, ByteArray.size_append]
  have a8 : ∀ W, (Op.stringOp .add X7 S).run Tryz.prog W = .ok (.string X8) W := fun W => by
    rw [← hX8]
    exact add_run2 _ _ (by have : (⟨#[40, 117, 110, 105, 116]⟩ : ByteArray).size = 5 := rfl; omega) W
  obtain ⟨X9, hX9⟩ : ∃ X9 : ByteArray, X8 ++ (⟨#[41]⟩ : ByteArray) = X9 := ⟨_, rfl⟩
  have sX9 : X9.size = (X8 : ByteArray).size + ((⟨#[41]⟩ : ByteArray) : ByteArray).size := by rw [← hX9, ByteArray.size_append]
  have a9 : ∀ W, (Op.stringOp .add X8 (⟨#[41]⟩ : ByteArray)).run Tryz.prog W = .ok (.string X9) W := fun W => by
    rw [← hX9]
    exact add_run2 _ _ (by have : (⟨#[40, 117, 110, 105, 116]⟩ : ByteArray).size = 5 := rfl; have : (⟨#[41]⟩ : ByteArray).size = 1 := rfl; omega) W
  have HX9 : Hid (X9 = bs (unitX u)) := by
    unfold Hid
    rw [← hX9, ← hX8, ← hX7, ← hX6, ← hX5, ← hX4, ← hX3, ← hX2, ← hX1, ← hX0, ← hS, hN0, hN1, hN2, hN3, hN4, hN5, hN6, hN7]
    rw [show (⟨#[40, 117, 110, 105, 116]⟩ : ByteArray) = bs [40, 117, 110, 105, 116] from rfl, show (⟨#[41]⟩ : ByteArray) = bs [41] from rfl, bs_append, bs_append, bs_append, bs_append, bs_append, bs_append, bs_append, bs_append, bs_append, bs_append]
    simp [unitX, unitZs]
  have HSS := Lib.hid hS
  clear hX9 hX8 hX0 hX1 hX2 hX3 hX4 hX5 hX6 hX7 hS hN0 hN1 hN2 hN3 hN4 hN5 hN6 hN7 sX0 sX1 sX2 sX3 sX4 sX5 sX6 sX7 sX8 sX9 s0 s1 s2 s3 s4 s5 s6 s7 sS
  go_enter Tryz.func9, Tryz.ntmps9
  go_wp2_with fail
  have hA := UBk.new w u A n c
  have hE0 : Ext w (w.alloc (.cells #[.int .i64 u.bus, .int .i64 u.mn, .slice A n c, .int .i64 u.up, .int .i64 u.down, .int .i64 u.start, .int .i64 u.idle, .int .i64 u.spin, .int .i64 u.on] 24)) := Ext.al Ext.rfl' _
  generalize (w.alloc (.cells #[.int .i64 u.bus, .int .i64 u.mn, .slice A n c, .int .i64 u.up, .int .i64 u.down, .int .i64 u.start, .int .i64 u.idle, .int .i64 u.spin, .int .i64 u.on] 24)) = w0 at *
  obtain ⟨g, hg⟩ : ∃ g, w.heap.size = g := ⟨_, rfl⟩
  rw [hg] at hA ⊢
  clear hg
  have HA := Lib.hid hA
  have HE0 := Lib.hid hE0
  clear hA hE0
  have hcc := HA.out.cells
  have x0 := fun x : ExtOf w0 => x.cell hcc.1
  have x1 := fun x : ExtOf w0 => x.cell hcc.2.1
  have x2 := fun x : ExtOf w0 => x.cell hcc.2.2.1
  have x3 := fun x : ExtOf w0 => x.cell hcc.2.2.2.1
  have x4 := fun x : ExtOf w0 => x.cell hcc.2.2.2.2.1
  have x5 := fun x : ExtOf w0 => x.cell hcc.2.2.2.2.2.1
  have x6 := fun x : ExtOf w0 => x.cell hcc.2.2.2.2.2.2.1
  have x7 := fun x : ExtOf w0 => x.cell hcc.2.2.2.2.2.2.2.1
  have x8 := fun x : ExtOf w0 => x.cell hcc.2.2.2.2.2.2.2.2
  clear hcc
  refine wp_region_ext (by kernel_rfl) (by kernel_rfl) ?_
  repeat (go_big_quiet_step (exact ext_call (c0 _)))
  clear c0 x0
  repeat (go_big_quiet_step (exact ext_call (c1 _)))
  clear c1 x1 a0
  repeat (go_big_quiet_step (exact ext_call (c2 _)))
  clear c2 x3 a1
  repeat (go_big_quiet_step (exact ext_call (c3 _)))
  clear c3 x4 a2
  repeat (go_big_quiet_step (exact ext_call (c4 _)))
  clear c4 x5 a3
  repeat (go_big_quiet_step (exact ext_call (c5 _)))
  clear c5 x6 a4
  repeat (go_big_quiet_step (exact ext_call (c6 _)))
  clear c6 x7 a5
  repeat (go_big_quiet_step (exact ext_call (c7 _)))
  clear c7 x8 a6
  clear a7
  refine wpQuiet_nil ?_
  rintro _ ⟨x, rfl⟩
  have HX := Lib.hid x.h
  clear x2
  generalize x.w = w2 at *
  have HA2 := Lib.hid (HA.out.ext HX.out)
  have HE2 := Lib.hid (Ext.trans HE0.out HX.out)
  obtain ⟨-, -, y2, -⟩ := HA2.out.cells
  go_wp2_with fail
  clear y2
  refine (rsteps31_any A n c u.steps w2 (H.out.below HE2.out) HI.out hn).mono ?_
  rintro e w3 ⟨rfl, hE⟩
  rw [HSS.out]
  have HE3 := Lib.hid (Ext.trans HE2.out hE)
  clear hE
  go_wp2_with fail
  go_ret
  rw [HX9.out]
  exact ⟨rfl, HE3.out⟩
set_option maxRecDepth 100000 in
set_option maxHeartbeats 16000000 in
theorem rwriteb_any (b : Int) (xs : List (Int × Int)) (A : Option Addr) (n c : Nat) (w : World) (h : StepsAt w A n xs) (hb : I64r b) (hi : ∀ x ∈ xs, I64r x.1 ∧ I64r x.2) (hn : n ≤ 1000) :
    Calls Tryz.prog 10 #[.agg #[.int .i64 b, .slice A n c]] w fun e w' => e = .returned (.string (bs (bidX b xs))) ∧ Ext w w' := by
  have H := Lib.hid h
  have HLN := Lib.hid h.1
  have HI := Lib.hid hi
  obtain ⟨N0, hN0, s0, -, c0⟩ := num_pack b hb
  clear h hi hb
  obtain ⟨S, hS⟩ : ∃ S, bs (xs.flatMap stX) = S := ⟨_, rfl⟩
  have sS : S.size ≤ 44 * n := by
    rw [← hS, bs_size, ← HLN.out]
    exact stXs_len HI.out
  obtain ⟨X0, hX0⟩ : ∃ X0 : ByteArray, (⟨#[40, 98, 105, 100]⟩ : ByteArray) ++ N0 = X0 := ⟨_, rfl⟩
  have sX0 : X0.size = ((⟨#[40, 98, 105, 100]⟩ : ByteArray) : ByteArray).size + (N0 : ByteArray).size := by rw [← hX0, ByteArray.size_append]
  have a0 : ∀ W, (Op.stringOp .add (⟨#[40, 98, 105, 100]⟩ : ByteArray) N0).run Tryz.prog W = .ok (.string X0) W := fun W => by
    rw [← hX0]
    exact add_run2 _ _ (by have : (⟨#[40, 98, 105, 100]⟩ : ByteArray).size = 4 := rfl; omega) W
  obtain ⟨X1, hX1⟩ : ∃ X1 : ByteArray, X0 ++ S = X1 := ⟨_, rfl⟩
  have sX1 : X1.size = (X0 : ByteArray).size + (S : ByteArray).size := by rw [← hX1, ByteArray.size_append]
  have a1 : ∀ W, (Op.stringOp .add X0 S).run Tryz.prog W = .ok (.string X1) W := fun W => by
    rw [← hX1]
    exact add_run2 _ _ (by have : (⟨#[40, 98, 105, 100]⟩ : ByteArray).size = 4 := rfl; omega) W
  obtain ⟨X2, hX2⟩ : ∃ X2 : ByteArray, X1 ++ (⟨#[41]⟩ : ByteArray) = X2 := ⟨_, rfl⟩
  have sX2 : X2.size = (X1 : ByteArray).size + ((⟨#[41]⟩ : ByteArray) : ByteArray).size := by rw [← hX2, ByteArray.size_append]
  have a2 : ∀ W, (Op.stringOp .add X1 (⟨#[41]⟩ : ByteArray)).run Tryz.prog W = .ok (.string X2) W := fun W => by
    rw [← hX2]
    exact add_run2 _ _ (by have : (⟨#[40, 98, 105, 100]⟩ : ByteArray).size = 4 := rfl; have : (⟨#[41]⟩ : ByteArray).size = 1 := rfl; omega) W
  have HX9 : Hid (X2 = bs (bidX b xs)) := by
    unfold Hid
    rw [← hX2, ← hX1, ← hX0, ← hS, hN0]
    rw [show (⟨#[40, 98, 105, 100]⟩ : ByteArray) = bs [40, 98, 105, 100] from rfl, show (⟨#[41]⟩ : ByteArray) = bs [41] from rfl, bs_append, bs_append, bs_append]
    simp [bidX]
  have c1 : ∀ W, Ext w W → Calls Tryz.prog 29 #[.slice A n c] W fun e w' => e = .returned (.string S) ∧ Ext W w' := fun W hW => by
    rw [← hS]
    exact rsteps31_any A n c xs W (H.out.below hW) HI.out hn
  clear hX2 hX1 hX0 hS hN0 sX0 sX1 sX2 s0 sS
  go_enter Tryz.func10, Tryz.ntmps10
  go_wp2_with fail
  have hC := Cell2.new w _ rfl (.int .i64 b) (.slice A n c) 26
  have hE0 : Ext w (w.alloc (.cells #[.int .i64 b, .slice A n c] 26)) := Ext.al Ext.rfl' _
  generalize (w.alloc (.cells #[.int .i64 b, .slice A n c] 26)) = w0 at *
  obtain ⟨g, hg⟩ : ∃ g, w.heap.size = g := ⟨_, rfl⟩
  rw [hg] at hC ⊢
  clear hg
  have HE0 := Lib.hid hE0
  clear hE0
  obtain ⟨y0, y1, -, -, -⟩ := hC
  have x0 := fun x : ExtOf w0 => x.cell y0
  have x1 := fun x : ExtOf w0 => x.cell y1
  have c2 : ∀ x : ExtOf w0, Calls Tryz.prog 29 #[.slice A n c] x.w fun e w' => e = .returned (.string S) ∧ Ext x.w w' := fun x => c1 _ (Ext.trans HE0.out x.h)
  clear y0 y1 c1
  refine wp_region_ext (by kernel_rfl) (by kernel_rfl) ?_
  repeat (go_big_quiet_step (first | exact ext_call (c0 _) | exact ext_call (c2 _)))
  refine wpQuiet_nil ?_
  rintro _ ⟨x, rfl⟩
  have HX := Lib.hid x.h
  clear x0 x1 c0 c2
  generalize x.w = w2 at *
  go_wp2_with fail
  go_ret
  rw [HX9.out]
  exact ⟨rfl, Ext.trans HE0.out HX.out⟩
end Go.Proofs.YtkdbpcenehhopaaGreat
