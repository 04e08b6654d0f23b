/- The contracts of pylonref22's WriteNet and WriteOutage: the text that Format would write. Printed by gen_txwr.py. -/
import Derived.Test.YtnofbjcikfofgaaGreatTxPC
import Derived.Test.YtnofbjcikfofgaaGreatRtx
namespace Go.Proofs.YtnofbjcikfofgaaGreat
open Go.RowKit
def numX (z : Int) : Bs := 32 :: fmtZ z
def lnX (z : List Int) : Bs := [32, 40, 108, 105, 110, 101] ++ numX (z.getD 0 0) ++ numX (z.getD 1 0) ++ numX (z.getD 2 0) ++ numX (z.getD 3 0) ++ [41]
def netX (b : Int) (ls : List (List Int)) : Bs := [40, 110, 101, 116] ++ numX b ++ ls.flatMap lnX ++ [41]
def outX (kd wh fr to_ : Int) : Bs := [40] ++ outName kd ++ numX wh ++ numX fr ++ numX to_ ++ [41]
theorem piece_numT (z : Int) : pieceT (numT z) = fmtZ z := by
  show fmtZ ((z : Rat).num) = fmtZ z
  rw [Rat.num_intCast]
theorem sp_num (b : Bool) (z : Int) (r : List Tok) : spell (spaced b (numT z :: r)) = (if b then [] else [32]) ++ fmtZ z ++ spell (spaced false r) := by
  rw [spaced_cons, piece_numT]
  cases b <;> rfl
theorem sp_open (r : List Tok) : spell (spaced false (tokO :: r)) = [32, 40] ++ spell (spaced true r) := by
  rw [spaced_cons]
  rfl
theorem sp_close (b : Bool) (r : List Tok) : spell (spaced b (tokC :: r)) = [41] ++ spell (spaced false r) := by
  rw [spaced_cons]
  cases b <;> rfl
theorem sp_lns : ∀ ls : List (List Int), spell (spaced false (ls.flatMap lnTok ++ [tokC])) = ls.flatMap lnX ++ [41]
  | [] => by
    show spell (spaced false [tokC]) = _
    rw [sp_close]
    rfl
  | z :: ls => by
    have e : (z :: ls).flatMap lnTok ++ [tokC] = tokO :: tokW [108, 105, 110, 101] :: numT (z.getD 0 0) :: numT (z.getD 1 0) :: numT (z.getD 2 0) :: numT (z.getD 3 0) :: tokC :: (ls.flatMap lnTok ++ [tokC]) := rfl
    rw [e, sp_open, spaced_cons]
    have hk : decide ((tokW [108, 105, 110, 101]).kind = 1) = false := rfl
    rw [hk, sp_num, sp_num, sp_num, sp_num, sp_close, sp_lns ls]
    simp [lnX, numX, sepT, pieceT, tokW]
theorem netX_is (b : Int) (ls : List (List Int)) : netX b ls = fmtT (netToks b ls) := by
  unfold fmtT netToks netX
  rw [spaced_cons, spaced_cons]
  have h := sp_num false b (ls.flatMap lnTok ++ [tokC])
  rw [sp_lns] at h
  simp [sepT, pieceT, tokO, tokW] at h ⊢
  rw [h]
  simp [numX]
theorem outX_is (kd wh fr to_ : Int) : outX kd wh fr to_ = fmtT (outToks kd wh fr to_) := by
  unfold fmtT outToks outX
  rw [spaced_cons, spaced_cons]
  have hk : decide ((tokW (outName kd)).kind = 1) = false := rfl
  rw [hk, sp_num, sp_num, sp_num, sp_close]
  simp [sepT, pieceT, tokO, tokW, numX, spaced, spell]
theorem numX_len {z : Int} (h : I64r z) : (numX z).length ≤ 21 := by
  have := fmtZ_len64 h
  simp [numX]
  omega
theorem lnX_len {z : List Int} (h4 : z.length = 4) (h : ∀ x ∈ z, I64r x) : (lnX z).length ≤ 91 := by
  match z, h4 with
  | [a, b, c, d], _ =>
    have h0 := numX_len (h a (by simp))
    have h1 := numX_len (h b (by simp))
    have h2 := numX_len (h c (by simp))
    have h3 := numX_len (h d (by simp))
    simp [lnX]
    omega
theorem lnXs_len : ∀ {ls : List (List Int)}, (∀ z ∈ ls, z.length = 4 ∧ ∀ x ∈ z, I64r x) → (ls.flatMap lnX).length ≤ 91 * ls.length
  | [], _ => by simp
  | z :: ls, h => by
    have h1 := lnX_len (h z List.mem_cons_self).1 (h z List.mem_cons_self).2
    have h2 := lnXs_len (ls := ls) (fun y hy => h y (List.mem_cons_of_mem _ hy))
    rw [List.flatMap_cons, List.length_append, List.length_cons]
    omega
theorem lnX_take {ls : List (List Int)} {k : Nat} (h : k < ls.length) : (ls.take (k + 1)).flatMap lnX = (ls.take k).flatMap lnX ++ lnX (ls.getD k []) := by
  rw [List.take_succ_eq_append_getElem h, List.flatMap_append]
  simp [List.getD, List.getElem?_eq_getElem h]
theorem add_run2 (a b : ByteArray) (h : a.size + b.size ≤ 9223372036854775807) (W : World) : (Op.stringOp .add a b).run Tryz.prog W = .ok (.string (a ++ b)) W := run_string_add_sum _ _ _ h
/-- the number's text -/
theorem num_pack (z : Int) (hz : I64r z) : ∃ N : ByteArray, N = bs (numX z) ∧ N.size ≤ 21 ∧ ∀ W, Calls Tryz.prog 24 #[.int .i64 z] W fun e w' => e = .returned (.string N) ∧ Ext W w' :=
  ⟨_, rfl, by rw [bs_size]; exact numX_len hz, fun W => rnum22_any z W hz⟩
set_option maxRecDepth 100000 in
set_option maxHeartbeats 16000000 in
theorem rwnet_any (b : Int) (A : Option Addr) (n c : Nat) (ls : List (List Int)) (w : World) (h : LinesAt w A n ls) (hb : I64r b) (hi : ∀ z ∈ ls, z.length = 4 ∧ ∀ x ∈ z, I64r x) (hn : n ≤ 1000) :
    Calls Tryz.prog 11 #[.agg #[.int .i64 b, .slice A n c]] w fun e w' => e = .returned (.string (bs (netX b ls))) ∧ Ext w w' := by
  have H := Lib.hid h
  have HLN := Lib.hid h.1
  have HI := Lib.hid hi
  obtain ⟨NB, hNB, sNB, cB⟩ := num_pack b hb
  clear h hi hb
  obtain ⟨XB, hXB⟩ : ∃ XB : ByteArray, (⟨#[40, 110, 101, 116]⟩ : ByteArray) ++ NB = XB := ⟨_, rfl⟩
  have sXB : XB.size = ((⟨#[40, 110, 101, 116]⟩ : ByteArray) : ByteArray).size + (NB : ByteArray).size := by rw [← hXB, ByteArray.size_append]
  have aB : ∀ W, (Op.stringOp .add (⟨#[40, 110, 101, 116]⟩ : ByteArray) NB).run Tryz.prog W = .ok (.string XB) W := fun W => by
    rw [← hXB]
    exact add_run2 _ _ (by have : (⟨#[40, 110, 101, 116]⟩ : ByteArray).size = 4 := rfl; omega) W
  have HXB : Hid (XB = bs ([40, 110, 101, 116] ++ numX b) ∧ XB.size ≤ 25) := by
    refine ⟨?_, by have : (⟨#[40, 110, 101, 116]⟩ : ByteArray).size = 4 := rfl; omega⟩
    rw [← hXB, hNB, show (⟨#[40, 110, 101, 116]⟩ : ByteArray) = bs [40, 110, 101, 116] from rfl, bs_append]
  clear hXB sXB hNB sNB
  go_enter Tryz.func11, Tryz.ntmps11
  go_wp2_with fail
  have hC := Cell2.new w _ rfl (.int .i64 b) (.slice A n c) 24
  have hE0 : Ext w (w.alloc (.cells #[.int .i64 b, .slice A n c] 24)) := Ext.al Ext.rfl' _
  generalize (w.alloc (.cells #[.int .i64 b, .slice A n c] 24)) = w0 at *
  obtain ⟨g, hg⟩ : ∃ g, w.heap.size = g := ⟨_, rfl⟩
  rw [hg] at hC ⊢
  clear hg
  have HC := Lib.hid hC
  have HE0 := Lib.hid hE0
  clear hC hE0
  obtain ⟨x0, x1, -, -, -⟩ := HC.out
  go_wp2_with fail
  clear x0 x1
  refine (cB w0).mono ?_
  rintro e w1 ⟨rfl, hE⟩
  have HC1 := Lib.hid (HC.out.ext hE)
  have HE1 := Lib.hid (Ext.trans HE0.out hE)
  clear hE HC HE0 cB
  go_wp2_with fail
  clear aB
  have HX0 : Hid (XB = bs ([40, 110, 101, 116] ++ numX b ++ (ls.take 0).flatMap lnX)) := by unfold Hid; rw [HXB.out.1]; simp
  obtain ⟨T0, hT0⟩ : ∃ T0, [40, 110, 101, 116] ++ numX b = T0 := ⟨_, rfl⟩
  rw [hT0] at HX0 HXB
  have HT0 := Lib.hid hT0
  have HTL : Hid (T0.length ≤ 25) := by have := HXB.out.2; rw [HXB.out.1, bs_size] at this; exact this
  clear hT0
  go_loopw [3, 4] (fun sv i wr => ∃ k : Nat, k ≤ n ∧ sv = .string (bs (T0 ++ (ls.take k).flatMap lnX)) ∧ i = .int .i64 (k : Int) ∧ Hid (Cell2 wr g (.int .i64 b) (.slice A n c)) ∧ Hid (Ext w wr)) (fun _ i _ => n - (intOf i).toNat)
  case atStart => exact ⟨0, by omega, by rw [← HX0.out], rfl, HC1, HE1⟩
  case round =>
    obtain ⟨k, hk, rfl, rfl, HC, HE⟩ := hrel
    obtain ⟨x0, x1, -, -, -⟩ := HC.out
    have hal : (bs (T0 ++ (ls.take k).flatMap lnX)).size ≤ 91025 := by
      rw [bs_size, List.length_append]
      have h1 := lnXs_len (ls := ls.take k) (fun x hx => HI.out x (List.mem_of_mem_take hx))
      rw [List.length_take] at h1
      have := HTL.out
      omega
    by_cases hlt : k < n
    · have hbv : decide ((k : Int) < (n : Int)) = true := by simp; omega
      have hbv2 : decide (k < n) = true := by simp; omega
      have hz0 : (0 : Int) ≤ (k : Int) := by omega
      have hzn : (k : Int) < (n : Int) := by omega
      have HST := Lib.hid (lnX_take (ls := ls) (k := k) (by rw [HLN.out]; exact hlt))
      have HIK := HI.out (ls.getD k []) (by
        have hk2 : k < ls.length := by rw [HLN.out]; exact hlt
        rw [show ls.getD k [] = ls[k] by simp [List.getD, List.getElem?_eq_getElem hk2]]
        exact List.getElem_mem hk2)
      obtain ⟨sb, so, rfl, hsb, hsc⟩ := (H.out.ext HE.out).2 (by omega)
      obtain ⟨y0, y1, y2, y3⟩ := hsc k hlt
      obtain ⟨z, hx⟩ : ∃ x, ls.getD k [] = x := ⟨_, rfl⟩
      rw [hx] at y0 y1 y2 y3 HST HIK
      clear hx hsc
      obtain ⟨hz4, hzi⟩ := HIK
      have HLX : Hid (lnX z = [32, 40, 108, 105, 110, 101] ++ numX (z.getD 0 0) ++ numX (z.getD 1 0) ++ numX (z.getD 2 0) ++ numX (z.getD 3 0) ++ [41]) := rfl
      have hq : I64r (z.getD 0 0) ∧ I64r (z.getD 1 0) ∧ I64r (z.getD 2 0) ∧ I64r (z.getD 3 0) := by
        match z, hz4 with
        | [a, b, c, d], _ => exact ⟨hzi a (by simp), hzi b (by simp), hzi c (by simp), hzi d (by simp)⟩
      clear hz4 hzi
      generalize z.getD 0 0 = z0 at *
      generalize z.getD 1 0 = z1 at *
      generalize z.getD 2 0 = z2 at *
      generalize z.getD 3 0 = z3 at *
      obtain ⟨N0, hN0, s0, c0⟩ := num_pack z0 hq.1
      obtain ⟨N1, hN1, s1, c1⟩ := num_pack z1 hq.2.1
      obtain ⟨N2, hN2, s2, c2⟩ := num_pack z2 hq.2.2.1
      obtain ⟨N3, hN3, s3, c3⟩ := num_pack z3 hq.2.2.2
      clear hq
      obtain ⟨X0, hX0⟩ : ∃ X0, bs (T0 ++ (ls.take k).flatMap lnX) = X0 := ⟨_, rfl⟩
      rw [hX0] at hal
      obtain ⟨X1, hX1⟩ : ∃ X1 : ByteArray, X0 ++ (⟨#[32, 40, 108, 105, 110, 101]⟩ : ByteArray) = X1 := ⟨_, rfl⟩
      have sX1 : X1.size = (X0 : ByteArray).size + ((⟨#[32, 40, 108, 105, 110, 101]⟩ : ByteArray) : ByteArray).size := by rw [← hX1, ByteArray.size_append]
      have a1 : ∀ W, (Op.stringOp .add X0 (⟨#[32, 40, 108, 105, 110, 101]⟩ : ByteArray)).run Tryz.prog W = .ok (.string X1) W := fun W => by
        rw [← hX1]
        exact add_run2 _ _ (by have : (⟨#[32, 40, 108, 105, 110, 101]⟩ : ByteArray).size = 6 := rfl; have : (⟨#[41]⟩ : ByteArray).size = 1 := rfl; omega) W
      obtain ⟨X2, hX2⟩ : ∃ X2 : ByteArray, X1 ++ N0 = X2 := ⟨_, rfl⟩
      have sX2 : X2.size = (X1 : ByteArray).size + (N0 : ByteArray).size := by rw [← hX2, ByteArray.size_append]
      have a2 : ∀ W, (Op.stringOp .add X1 N0).run Tryz.prog W = .ok (.string X2) W := fun W => by
        rw [← hX2]
        exact add_run2 _ _ (by have : (⟨#[32, 40, 108, 105, 110, 101]⟩ : ByteArray).size = 6 := rfl; have : (⟨#[41]⟩ : ByteArray).size = 1 := rfl; omega) W
      obtain ⟨X3, hX3⟩ : ∃ X3 : ByteArray, X2 ++ N1 = X3 := ⟨_, rfl⟩
      have sX3 : X3.size = (X2 : ByteArray).size + (N1 : ByteArray).size := by rw [← hX3, ByteArray.size_append]
      have a3 : ∀ W, (Op.stringOp .add X2 N1).run Tryz.prog W = .ok (.string X3) W := fun W => by
        rw [← hX3]
        exact add_run2 _ _ (by have : (⟨#[32, 40, 108, 105, 110, 101]⟩ : ByteArray).size = 6 := rfl; have : (⟨#[41]⟩ : ByteArray).size = 1 := rfl; omega) W
      obtain ⟨X4, hX4⟩ : ∃ X4 : ByteArray, X3 ++ N2 = X4 := ⟨_, rfl⟩
      have sX4 : X4.size = (X3 : ByteArray).size + (N2 : ByteArray).size := by rw [← hX4, ByteArray.size_append]
      have a4 : ∀ W, (Op.stringOp .add X3 N2).run Tryz.prog W = .ok (.string X4) W := fun W => by
        rw [← hX4]
        exact add_run2 _ _ (by have : (⟨#[32, 40, 108, 105, 110, 101]⟩ : ByteArray).size = 6 := rfl; have : (⟨#[41]⟩ : ByteArray).size = 1 := rfl; omega) W
      obtain ⟨X5, hX5⟩ : ∃ X5 : ByteArray, X4 ++ N3 = X5 := ⟨_, rfl⟩
      have sX5 : X5.size = (X4 : ByteArray).size + (N3 : ByteArray).size := by rw [← hX5, ByteArray.size_append]
      have a5 : ∀ W, (Op.stringOp .add X4 N3).run Tryz.prog W = .ok (.string X5) W := fun W => by
        rw [← hX5]
        exact add_run2 _ _ (by have : (⟨#[32, 40, 108, 105, 110, 101]⟩ : ByteArray).size = 6 := rfl; have : (⟨#[41]⟩ : ByteArray).size = 1 := rfl; omega) W
      obtain ⟨X6, hX6⟩ : ∃ X6 : ByteArray, X5 ++ (⟨#[41]⟩ : ByteArray) = X6 := ⟨_, rfl⟩
      have sX6 : X6.size = (X5 : ByteArray).size + ((⟨#[41]⟩ : ByteArray) : ByteArray).size := by rw [← hX6, ByteArray.size_append]
      have a6 : ∀ W, (Op.stringOp .add X5 (⟨#[41]⟩ : ByteArray)).run Tryz.prog W = .ok (.string X6) W := fun W => by
        rw [← hX6]
        exact add_run2 _ _ (by have : (⟨#[32, 40, 108, 105, 110, 101]⟩ : ByteArray).size = 6 := rfl; have : (⟨#[41]⟩ : ByteArray).size = 1 := rfl; omega) W
      have HX6 : Hid (X6 = bs (T0 ++ (ls.take (k + 1)).flatMap lnX)) := by
        unfold Hid
        rw [HST.out, HLX.out, ← hX6, ← hX5, ← hX4, ← hX3, ← hX2, ← hX1, ← hX0, hN0, hN1, hN2, hN3]
        rw [show (⟨#[32, 40, 108, 105, 110, 101]⟩ : ByteArray) = bs [32, 40, 108, 105, 110, 101] from rfl, show (⟨#[41]⟩ : ByteArray) = bs [41] from rfl, bs_append, bs_append, bs_append, bs_append, bs_append, bs_append]
        simp
      rw [hX0]
      clear hX6 hX5 hX4 hX3 hX2 hX1 hX0 sX1 sX2 sX3 sX4 sX5 sX6 hN0 hN1 hN2 hN3 s0 s1 s2 s3 hal
      have HW4 := Lib.hid (Cell4.new wr _ rfl (.int .i64 z0) (.int .i64 z1) (.int .i64 z2) (.int .i64 z3) 46)
      have HEW := Lib.hid (show Ext wr (wr.alloc (.cells #[.int .i64 z0, .int .i64 z1, .int .i64 z2, .int .i64 z3] 46)) from Ext.al Ext.rfl' _)
      go_wp2_with fail
      clear y0 y1 y2 y3 x0 x1
      have hW4 := HW4.out
      have hEW := HEW.out
      clear HW4 HEW
      generalize (wr.alloc (.cells #[.int .i64 z0, .int .i64 z1, .int .i64 z2, .int .i64 z3] 46)) = wb at *
      obtain ⟨⟨d0, d1, d2, d3⟩, -, -⟩ := hW4
      have x0 := fun x : ExtOf wb => x.cell d0
      have x1 := fun x : ExtOf wb => x.cell d1
      have x2 := fun x : ExtOf wb => x.cell d2
      have x3 := fun x : ExtOf wb => x.cell d3
      have HCb := Lib.hid (HC.out.ext hEW)
      have HEb := Lib.hid (Ext.trans HE.out hEW)
      clear d0 d1 d2 d3 hEW
      refine wp_region_ext (by kernel_rfl) (by kernel_rfl) ?_
      repeat (go_big_quiet_step (first | exact ext_call (c0 _) | exact ext_call (c1 _) | exact ext_call (c2 _) | exact ext_call (c3 _)))
      refine wpQuiet_nil ?_
      rintro _ ⟨x, rfl⟩
      have HX := Lib.hid x.h
      clear x0 x1 x2 x3
      generalize x.w = w2 at *
      go_wp2_with fail
      go_roundw
      case rel => exact ⟨k + 1, by omega, by rw [HX6.out], by go_num, HCb.out.ext HX.out, Ext.trans HEb.out HX.out⟩
      case measure => simp [intOf]; omega
    · obtain rfl : k = n := by omega
      have hbv : decide ((k : Int) < (k : Int)) = false := by simp
      have hbv2 : decide (k < k) = false := by simp
      have e0 : ls.take k = ls := List.take_of_length_le (by rw [HLN.out]; exact Nat.le_refl _)
      rw [e0] at hal ⊢
      obtain ⟨X0, hX0⟩ : ∃ X0, bs (T0 ++ ls.flatMap lnX) = X0 := ⟨_, rfl⟩
      rw [hX0] at hal ⊢
      obtain ⟨X1, hX1⟩ : ∃ X1 : ByteArray, X0 ++ (⟨#[41]⟩ : ByteArray) = X1 := ⟨_, rfl⟩
      have sX1 : X1.size = (X0 : ByteArray).size + ((⟨#[41]⟩ : ByteArray) : ByteArray).size := by rw [← hX1, ByteArray.size_append]
      have a1 : ∀ W, (Op.stringOp .add X0 (⟨#[41]⟩ : ByteArray)).run Tryz.prog W = .ok (.string X1) W := fun W => by
        rw [← hX1]
        exact add_run2 _ _ (by have : (⟨#[32, 40, 108, 105, 110, 101]⟩ : ByteArray).size = 6 := rfl; have : (⟨#[41]⟩ : ByteArray).size = 1 := rfl; omega) W
      have HX1 : Hid (X1 = bs (netX b ls)) := by
        unfold Hid
        rw [← hX1, ← hX0, ← HT0.out, show (⟨#[41]⟩ : ByteArray) = bs [41] from rfl, bs_append]
        simp [netX]
      clear e0 hX0 hX1 sX1
      go_wp2_with fail
      go_ret
      rw [HX1.out]
      exact ⟨rfl, HE.out⟩
/-- What the values of WriteOutage's region are. -/
inductive SK where
  | any
  | is (v : Value)
  | strs (l : List ByteArray)
  | ptr (v : Value)
def SK.holds : SK → Value → World → Prop
  | .any, _, _ => True
  | .is v0, v, _ => v = v0
  | .strs l, v, w => ∃ b c, v = .slice (some ⟨b, 0, none⟩) l.length c ∧ b < w.heap.size ∧ ∀ i, i < l.length → w.cell? ⟨b, i, none⟩ = some (.string (l.getD i ⟨#[]⟩))
  | .ptr v0, v, w => ∃ ad, v = .pointer (some ad) ∧ ad.block < w.heap.size ∧ w.cell? ad = some v0
theorem SK.mono {k : SK} {v : Value} {w w' : World} (h : k.holds v w) (hE : Ext w w') : k.holds v w' := by
  cases k with
  | any => trivial
  | is v0 => exact h
  | strs l => obtain ⟨b, c, h1, h2, h3⟩ := h; exact ⟨b, c, h1, Nat.lt_of_lt_of_le h2 hE.size, fun i hi => Ext.cellOf hE (h3 i hi)⟩
  | ptr v0 => obtain ⟨ad, h1, h2, h3⟩ := h; exact ⟨ad, h1, Nat.lt_of_lt_of_le h2 hE.size, Ext.cellOf hE h3⟩
def nameL : List ByteArray := [⟨#[]⟩, ⟨#[112, 108, 97, 110]⟩, ⟨#[108, 111, 115, 115]⟩, ⟨#[116, 114, 105, 112]⟩]
set_option maxRecDepth 100000 in
set_option maxHeartbeats 4000000 in
theorem rwords_any (w : World) : Calls Tryz.prog 31 #[] w fun e w' => ∃ b c, e = .returned (.slice (some ⟨b, 0, none⟩) 4 c) ∧ b < w'.heap.size ∧ (∀ i, i < 4 → w'.cell? ⟨b, i, none⟩ = some (.string (nameL.getD i ⟨#[]⟩))) ∧ Ext w w' := by
  go_enter Tryz.func31, Tryz.ntmps31
  go_wp2_with fail
  go_ret
  have hb := Blk.new w 9 #[.string ⟨#[]⟩, .string ⟨#[112, 108, 97, 110]⟩, .string ⟨#[108, 111, 115, 115]⟩, .string ⟨#[116, 114, 105, 112]⟩]
  refine ⟨_, _, rfl, hb.lt, fun i hi => ?_, Ext.al Ext.rfl' _⟩
  rw [hb.cell]
  match i, hi with
  | 0, _ => rfl
  | 1, _ => rfl
  | 2, _ => rfl
  | 3, _ => rfl
set_option maxRecDepth 100000 in
set_option maxHeartbeats 32000000 in
theorem rwout_any (kd wh fr to_ : Int) (w : World) (hk : kd = 1 ∨ kd = 2 ∨ kd = 3) (h1 : I64r wh) (h2 : I64r fr) (h3 : I64r to_) :
    Calls Tryz.prog 15 #[.agg #[.int .u8 kd, .int .i64 wh, .int .i64 fr, .int .i64 to_]] w fun e w' => e = .returned (.string (bs (outX kd wh fr to_))) ∧ Ext w w' := by
  obtain ⟨N0, hN0, s0, c0⟩ := num_pack wh h1
  obtain ⟨N1, hN1, s1, c1⟩ := num_pack fr h2
  obtain ⟨N2, hN2, s2, c2⟩ := num_pack to_ h3
  clear h1 h2 h3
  have hM : nameL.getD kd.toNat ⟨#[]⟩ = bs (outName kd) := by rcases hk with rfl | rfl | rfl <;> rfl
  have hMs : (bs (outName kd)).size = 4 := by rcases hk with rfl | rfl | rfl <;> rfl
  obtain ⟨M, hMe⟩ : ∃ M, bs (outName kd) = M := ⟨_, rfl⟩
  rw [hMe] at hM hMs
  obtain ⟨X1, hX1⟩ : ∃ X1 : ByteArray, (⟨#[40]⟩ : ByteArray) ++ M = X1 := ⟨_, rfl⟩
  have sX1 : X1.size = ((⟨#[40]⟩ : ByteArray) : ByteArray).size + (M : ByteArray).size := by rw [← hX1, ByteArray.size_append]
  have a1 : ∀ W, (Op.stringOp .add (⟨#[40]⟩ : ByteArray) M).run Tryz.prog W = .ok (.string X1) W := fun W => by
    rw [← hX1]
    exact add_run2 _ _ (by have : (⟨#[40]⟩ : ByteArray).size = 1 := rfl; have : (⟨#[41]⟩ : ByteArray).size = 1 := rfl; omega) W
  obtain ⟨X2, hX2⟩ : ∃ X2 : ByteArray, X1 ++ N0 = X2 := ⟨_, rfl⟩
  have sX2 : X2.size = (X1 : ByteArray).size + (N0 : ByteArray).size := by rw [← hX2, ByteArray.size_append]
  have a2 : ∀ W, (Op.stringOp .add X1 N0).run Tryz.prog W = .ok (.string X2) W := fun W => by
    rw [← hX2]
    exact add_run2 _ _ (by have : (⟨#[40]⟩ : ByteArray).size = 1 := rfl; have : (⟨#[41]⟩ : ByteArray).size = 1 := rfl; omega) W
  obtain ⟨X3, hX3⟩ : ∃ X3 : ByteArray, X2 ++ N1 = X3 := ⟨_, rfl⟩
  have sX3 : X3.size = (X2 : ByteArray).size + (N1 : ByteArray).size := by rw [← hX3, ByteArray.size_append]
  have a3 : ∀ W, (Op.stringOp .add X2 N1).run Tryz.prog W = .ok (.string X3) W := fun W => by
    rw [← hX3]
    exact add_run2 _ _ (by have : (⟨#[40]⟩ : ByteArray).size = 1 := rfl; have : (⟨#[41]⟩ : ByteArray).size = 1 := rfl; omega) W
  obtain ⟨X4, hX4⟩ : ∃ X4 : ByteArray, X3 ++ N2 = X4 := ⟨_, rfl⟩
  have sX4 : X4.size = (X3 : ByteArray).size + (N2 : ByteArray).size := by rw [← hX4, ByteArray.size_append]
  have a4 : ∀ W, (Op.stringOp .add X3 N2).run Tryz.prog W = .ok (.string X4) W := fun W => by
    rw [← hX4]
    exact add_run2 _ _ (by have : (⟨#[40]⟩ : ByteArray).size = 1 := rfl; have : (⟨#[41]⟩ : ByteArray).size = 1 := rfl; omega) W
  obtain ⟨X5, hX5⟩ : ∃ X5 : ByteArray, X4 ++ (⟨#[41]⟩ : ByteArray) = X5 := ⟨_, rfl⟩
  have sX5 : X5.size = (X4 : ByteArray).size + ((⟨#[41]⟩ : ByteArray) : ByteArray).size := by rw [← hX5, ByteArray.size_append]
  have a5 : ∀ W, (Op.stringOp .add X4 (⟨#[41]⟩ : ByteArray)).run Tryz.prog W = .ok (.string X5) W := fun W => by
    rw [← hX5]
    exact add_run2 _ _ (by have : (⟨#[40]⟩ : ByteArray).size = 1 := rfl; have : (⟨#[41]⟩ : ByteArray).size = 1 := rfl; omega) W
  have HX5 : Hid (X5 = bs (outX kd wh fr to_)) := by
    unfold Hid
    rw [← hX5, ← hX4, ← hX3, ← hX2, ← hX1, ← hMe, hN0, hN1, hN2]
    rw [show (⟨#[40]⟩ : ByteArray) = bs [40] from rfl, show (⟨#[41]⟩ : ByteArray) = bs [41] from rfl, bs_append, bs_append, bs_append, bs_append, bs_append]
    rfl
  have HM := Lib.hid hM
  clear hX5 hX4 hX3 hX2 hX1 sX1 sX2 sX3 sX4 sX5 hN0 hN1 hN2 s0 s1 s2 hMe hMs hM
  have hk0 : 0 ≤ kd ∧ kd < 4 := by omega
  clear hk
  go_enter Tryz.func15, Tryz.ntmps15
  go_wp2_with fail
  have hC := Cell4.new w _ rfl (.int .u8 kd) (.int .i64 wh) (.int .i64 fr) (.int .i64 to_) 26
  have hE0 : Ext w (w.alloc (.cells #[.int .u8 kd, .int .i64 wh, .int .i64 fr, .int .i64 to_] 26)) := Ext.al Ext.rfl' _
  generalize (w.alloc (.cells #[.int .u8 kd, .int .i64 wh, .int .i64 fr, .int .i64 to_] 26)) = w0 at *
  obtain ⟨g, hg⟩ : ∃ g, w.heap.size = g := ⟨_, rfl⟩
  rw [hg] at hC ⊢
  clear hg
  have hE : Ext w0 w0.drew := Ext.rfl'.drew
  have HC := Lib.hid (hC.ext hE)
  have HE0 := Lib.hid (Ext.trans hE0 hE)
  clear hC hE0 hE
  refine wp_region_free (fun i => (([SK.strs nameL, SK.is (.pointer (some ⟨g, 0, none⟩)), SK.is (.int .u8 kd), SK.ptr (.string (nameL.getD kd.toNat ⟨#[]⟩)), SK.is (.string M), SK.is (.string X1), SK.is (.pointer (some ⟨g, 1, none⟩)), SK.is (.int .i64 wh), SK.is (.string N0), SK.is (.string X2), SK.is (.pointer (some ⟨g, 2, none⟩)), SK.is (.int .i64 fr), SK.is (.string N1), SK.is (.string X3), SK.is (.pointer (some ⟨g, 3, none⟩)), SK.is (.int .i64 to_), SK.is (.string N2), SK.is (.string X4), SK.is (.string X5), SK.is (.string X5)] : List SK).getD i .any).holds) (by kernel_rfl) (by kernel_rfl) (fun _ _ _ _ h hE => SK.mono h hE) ?_ ?_
  all_goals generalize w0.drew = w1 at *
  · intro i hi
    match i, hi with
    | 0, _ =>
      refine ⟨fun o ho x wx hE hF hd => ?_⟩
      obtain rfl := Option.some.inj ho
      clear ho
      clear hd hF
      have HX := Lib.hid hE
      clear hE
      rw [show actOf _ x = (⟨#[x 0, x 1, x 2, x 3, x 4, x 5, x 6, x 7, x 8, x 9, x 10, x 11, x 12, x 13, x 14, x 15, x 16, x 17, x 18, x 19, x 20, x 21], []⟩ : Act) from rfl]
      go_wp2_with fail
      refine (rwords_any wx).mono ?_
      rintro e wy ⟨wb, wc, rfl, hb1, hb2, hE⟩
      go_wp2_with fail
      exact ⟨_, rfl, hE, wb, wc, rfl, hb1, hb2⟩
    | 1, _ =>
      refine ⟨fun o ho x wx hE hF hd => ?_⟩
      obtain rfl := Option.some.inj ho
      clear ho
      have ef1 : x 1 = .pointer (some ⟨g, 0, none⟩) := hF 1 (by decide +kernel)
      clear hd hF
      have HX := Lib.hid hE
      clear hE
      rw [show actOf _ x = (⟨#[x 0, x 1, x 2, x 3, x 4, x 5, x 6, x 7, x 8, x 9, x 10, x 11, x 12, x 13, x 14, x 15, x 16, x 17, x 18, x 19, x 20, x 21], []⟩ : Act) from rfl]
      rw [ef1]
      clear ef1
      go_wp2_with fail
      exact ⟨_, rfl, Ext.rfl', rfl⟩
    | 2, _ =>
      refine ⟨fun o ho x wx hE hF hd => ?_⟩
      obtain rfl := Option.some.inj ho
      clear ho
      have ed4 : x 4 = .pointer (some ⟨g, 0, none⟩) := hd 1 (by decide +kernel) _ _ rfl rfl
      clear hd hF
      have HX := Lib.hid hE
      clear hE
      rw [show actOf _ x = (⟨#[x 0, x 1, x 2, x 3, x 4, x 5, x 6, x 7, x 8, x 9, x 10, x 11, x 12, x 13, x 14, x 15, x 16, x 17, x 18, x 19, x 20, x 21], []⟩ : Act) from rfl]
      rw [ed4]
      clear ed4
      obtain ⟨⟨d0, d1, d2, d3⟩, -, -⟩ := HC.out.ext HX.out
      go_wp2_with fail
      exact ⟨_, rfl, Ext.rfl', rfl⟩
    | 3, _ =>
      refine ⟨fun o ho x wx hE hF hd => ?_⟩
      obtain rfl := Option.some.inj ho
      clear ho
      have ed5 : x 5 = .int .u8 kd := hd 2 (by decide +kernel) _ _ rfl rfl
      obtain ⟨wb, wc, eq3, hb1, hb2⟩ : (SK.strs nameL).holds (x 3) wx := hd 0 (by decide +kernel) _ _ rfl rfl
      clear hd hF
      have HX := Lib.hid hE
      clear hE
      rw [show actOf _ x = (⟨#[x 0, x 1, x 2, x 3, x 4, x 5, x 6, x 7, x 8, x 9, x 10, x 11, x 12, x 13, x 14, x 15, x 16, x 17, x 18, x 19, x 20, x 21], []⟩ : Act) from rfl]
      rw [ed5, eq3]
      clear ed5 eq3
      have hq0 := hk0.1
      have hq4 : kd < ((4 : Nat) : Int) := hk0.2
      go_wp2_with fail
      refine ⟨_, rfl, Ext.rfl', _, rfl, hb1, ?_⟩
      have := hb2 kd.toNat (by show kd.toNat < 4; omega)
      simpa using this
    | 4, _ =>
      refine ⟨fun o ho x wx hE hF hd => ?_⟩
      obtain rfl := Option.some.inj ho
      clear ho
      obtain ⟨ad, eq6, hb1, hb2⟩ : (SK.ptr (.string (nameL.getD kd.toNat ⟨#[]⟩))).holds (x 6) wx := hd 3 (by decide +kernel) _ _ rfl rfl
      rw [HM.out] at hb2
      clear hd hF
      have HX := Lib.hid hE
      clear hE
      rw [show actOf _ x = (⟨#[x 0, x 1, x 2, x 3, x 4, x 5, x 6, x 7, x 8, x 9, x 10, x 11, x 12, x 13, x 14, x 15, x 16, x 17, x 18, x 19, x 20, x 21], []⟩ : Act) from rfl]
      rw [eq6]
      clear eq6
      go_wp2_with fail
      exact ⟨_, rfl, Ext.rfl', rfl⟩
    | 5, _ =>
      refine ⟨fun o ho x wx hE hF hd => ?_⟩
      obtain rfl := Option.some.inj ho
      clear ho
      have ed7 : x 7 = .string M := hd 4 (by decide +kernel) _ _ rfl rfl
      clear hd hF
      have HX := Lib.hid hE
      clear hE
      rw [show actOf _ x = (⟨#[x 0, x 1, x 2, x 3, x 4, x 5, x 6, x 7, x 8, x 9, x 10, x 11, x 12, x 13, x 14, x 15, x 16, x 17, x 18, x 19, x 20, x 21], []⟩ : Act) from rfl]
      rw [ed7]
      clear ed7
      go_wp2_with fail
      exact ⟨_, rfl, Ext.rfl', rfl⟩
    | 6, _ =>
      refine ⟨fun o ho x wx hE hF hd => ?_⟩
      obtain rfl := Option.some.inj ho
      clear ho
      have ef1 : x 1 = .pointer (some ⟨g, 0, none⟩) := hF 1 (by decide +kernel)
      clear hd hF
      have HX := Lib.hid hE
      clear hE
      rw [show actOf _ x = (⟨#[x 0, x 1, x 2, x 3, x 4, x 5, x 6, x 7, x 8, x 9, x 10, x 11, x 12, x 13, x 14, x 15, x 16, x 17, x 18, x 19, x 20, x 21], []⟩ : Act) from rfl]
      rw [ef1]
      clear ef1
      go_wp2_with fail
      exact ⟨_, rfl, Ext.rfl', rfl⟩
    | 7, _ =>
      refine ⟨fun o ho x wx hE hF hd => ?_⟩
      obtain rfl := Option.some.inj ho
      clear ho
      have ed9 : x 9 = .pointer (some ⟨g, 1, none⟩) := hd 6 (by decide +kernel) _ _ rfl rfl
      clear hd hF
      have HX := Lib.hid hE
      clear hE
      rw [show actOf _ x = (⟨#[x 0, x 1, x 2, x 3, x 4, x 5, x 6, x 7, x 8, x 9, x 10, x 11, x 12, x 13, x 14, x 15, x 16, x 17, x 18, x 19, x 20, x 21], []⟩ : Act) from rfl]
      rw [ed9]
      clear ed9
      obtain ⟨⟨d0, d1, d2, d3⟩, -, -⟩ := HC.out.ext HX.out
      go_wp2_with fail
      exact ⟨_, rfl, Ext.rfl', rfl⟩
    | 8, _ =>
      refine ⟨fun o ho x wx hE hF hd => ?_⟩
      obtain rfl := Option.some.inj ho
      clear ho
      have ed10 : x 10 = .int .i64 wh := hd 7 (by decide +kernel) _ _ rfl rfl
      clear hd hF
      have HX := Lib.hid hE
      clear hE
      rw [show actOf _ x = (⟨#[x 0, x 1, x 2, x 3, x 4, x 5, x 6, x 7, x 8, x 9, x 10, x 11, x 12, x 13, x 14, x 15, x 16, x 17, x 18, x 19, x 20, x 21], []⟩ : Act) from rfl]
      rw [ed10]
      clear ed10
      go_wp2_with fail
      refine (c0 wx).mono ?_
      rintro e wy ⟨rfl, hE⟩
      go_wp2_with fail
      exact ⟨_, rfl, hE, rfl⟩
    | 9, _ =>
      refine ⟨fun o ho x wx hE hF hd => ?_⟩
      obtain rfl := Option.some.inj ho
      clear ho
      have ed8 : x 8 = .string X1 := hd 5 (by decide +kernel) _ _ rfl rfl
      have ed11 : x 11 = .string N0 := hd 8 (by decide +kernel) _ _ rfl rfl
      clear hd hF
      have HX := Lib.hid hE
      clear hE
      rw [show actOf _ x = (⟨#[x 0, x 1, x 2, x 3, x 4, x 5, x 6, x 7, x 8, x 9, x 10, x 11, x 12, x 13, x 14, x 15, x 16, x 17, x 18, x 19, x 20, x 21], []⟩ : Act) from rfl]
      rw [ed8, ed11]
      clear ed8 ed11
      go_wp2_with fail
      exact ⟨_, rfl, Ext.rfl', rfl⟩
    | 10, _ =>
      refine ⟨fun o ho x wx hE hF hd => ?_⟩
      obtain rfl := Option.some.inj ho
      clear ho
      have ef1 : x 1 = .pointer (some ⟨g, 0, none⟩) := hF 1 (by decide +kernel)
      clear hd hF
      have HX := Lib.hid hE
      clear hE
      rw [show actOf _ x = (⟨#[x 0, x 1, x 2, x 3, x 4, x 5, x 6, x 7, x 8, x 9, x 10, x 11, x 12, x 13, x 14, x 15, x 16, x 17, x 18, x 19, x 20, x 21], []⟩ : Act) from rfl]
      rw [ef1]
      clear ef1
      go_wp2_with fail
      exact ⟨_, rfl, Ext.rfl', rfl⟩
    | 11, _ =>
      refine ⟨fun o ho x wx hE hF hd => ?_⟩
      obtain rfl := Option.some.inj ho
      clear ho
      have ed13 : x 13 = .pointer (some ⟨g, 2, none⟩) := hd 10 (by decide +kernel) _ _ rfl rfl
      clear hd hF
      have HX := Lib.hid hE
      clear hE
      rw [show actOf _ x = (⟨#[x 0, x 1, x 2, x 3, x 4, x 5, x 6, x 7, x 8, x 9, x 10, x 11, x 12, x 13, x 14, x 15, x 16, x 17, x 18, x 19, x 20, x 21], []⟩ : Act) from rfl]
      rw [ed13]
      clear ed13
      obtain ⟨⟨d0, d1, d2, d3⟩, -, -⟩ := HC.out.ext HX.out
      go_wp2_with fail
      exact ⟨_, rfl, Ext.rfl', rfl⟩
    | 12, _ =>
      refine ⟨fun o ho x wx hE hF hd => ?_⟩
      obtain rfl := Option.some.inj ho
      clear ho
      have ed14 : x 14 = .int .i64 fr := hd 11 (by decide +kernel) _ _ rfl rfl
      clear hd hF
      have HX := Lib.hid hE
      clear hE
      rw [show actOf _ x = (⟨#[x 0, x 1, x 2, x 3, x 4, x 5, x 6, x 7, x 8, x 9, x 10, x 11, x 12, x 13, x 14, x 15, x 16, x 17, x 18, x 19, x 20, x 21], []⟩ : Act) from rfl]
      rw [ed14]
      clear ed14
      go_wp2_with fail
      refine (c1 wx).mono ?_
      rintro e wy ⟨rfl, hE⟩
      go_wp2_with fail
      exact ⟨_, rfl, hE, rfl⟩
    | 13, _ =>
      refine ⟨fun o ho x wx hE hF hd => ?_⟩
      obtain rfl := Option.some.inj ho
      clear ho
      have ed12 : x 12 = .string X2 := hd 9 (by decide +kernel) _ _ rfl rfl
      have ed15 : x 15 = .string N1 := hd 12 (by decide +kernel) _ _ rfl rfl
      clear hd hF
      have HX := Lib.hid hE
      clear hE
      rw [show actOf _ x = (⟨#[x 0, x 1, x 2, x 3, x 4, x 5, x 6, x 7, x 8, x 9, x 10, x 11, x 12, x 13, x 14, x 15, x 16, x 17, x 18, x 19, x 20, x 21], []⟩ : Act) from rfl]
      rw [ed12, ed15]
      clear ed12 ed15
      go_wp2_with fail
      exact ⟨_, rfl, Ext.rfl', rfl⟩
    | 14, _ =>
      refine ⟨fun o ho x wx hE hF hd => ?_⟩
      obtain rfl := Option.some.inj ho
      clear ho
      have ef1 : x 1 = .pointer (some ⟨g, 0, none⟩) := hF 1 (by decide +kernel)
      clear hd hF
      have HX := Lib.hid hE
      clear hE
      rw [show actOf _ x = (⟨#[x 0, x 1, x 2, x 3, x 4, x 5, x 6, x 7, x 8, x 9, x 10, x 11, x 12, x 13, x 14, x 15, x 16, x 17, x 18, x 19, x 20, x 21], []⟩ : Act) from rfl]
      rw [ef1]
      clear ef1
      go_wp2_with fail
      exact ⟨_, rfl, Ext.rfl', rfl⟩
    | 15, _ =>
      refine ⟨fun o ho x wx hE hF hd => ?_⟩
      obtain rfl := Option.some.inj ho
      clear ho
      have ed17 : x 17 = .pointer (some ⟨g, 3, none⟩) := hd 14 (by decide +kernel) _ _ rfl rfl
      clear hd hF
      have HX := Lib.hid hE
      clear hE
      rw [show actOf _ x = (⟨#[x 0, x 1, x 2, x 3, x 4, x 5, x 6, x 7, x 8, x 9, x 10, x 11, x 12, x 13, x 14, x 15, x 16, x 17, x 18, x 19, x 20, x 21], []⟩ : Act) from rfl]
      rw [ed17]
      clear ed17
      obtain ⟨⟨d0, d1, d2, d3⟩, -, -⟩ := HC.out.ext HX.out
      go_wp2_with fail
      exact ⟨_, rfl, Ext.rfl', rfl⟩
    | 16, _ =>
      refine ⟨fun o ho x wx hE hF hd => ?_⟩
      obtain rfl := Option.some.inj ho
      clear ho
      have ed18 : x 18 = .int .i64 to_ := hd 15 (by decide +kernel) _ _ rfl rfl
      clear hd hF
      have HX := Lib.hid hE
      clear hE
      rw [show actOf _ x = (⟨#[x 0, x 1, x 2, x 3, x 4, x 5, x 6, x 7, x 8, x 9, x 10, x 11, x 12, x 13, x 14, x 15, x 16, x 17, x 18, x 19, x 20, x 21], []⟩ : Act) from rfl]
      rw [ed18]
      clear ed18
      go_wp2_with fail
      refine (c2 wx).mono ?_
      rintro e wy ⟨rfl, hE⟩
      go_wp2_with fail
      exact ⟨_, rfl, hE, rfl⟩
    | 17, _ =>
      refine ⟨fun o ho x wx hE hF hd => ?_⟩
      obtain rfl := Option.some.inj ho
      clear ho
      have ed16 : x 16 = .string X3 := hd 13 (by decide +kernel) _ _ rfl rfl
      have ed19 : x 19 = .string N2 := hd 16 (by decide +kernel) _ _ rfl rfl
      clear hd hF
      have HX := Lib.hid hE
      clear hE
      rw [show actOf _ x = (⟨#[x 0, x 1, x 2, x 3, x 4, x 5, x 6, x 7, x 8, x 9, x 10, x 11, x 12, x 13, x 14, x 15, x 16, x 17, x 18, x 19, x 20, x 21], []⟩ : Act) from rfl]
      rw [ed16, ed19]
      clear ed16 ed19
      go_wp2_with fail
      exact ⟨_, rfl, Ext.rfl', rfl⟩
    | 18, _ =>
      refine ⟨fun o ho x wx hE hF hd => ?_⟩
      obtain rfl := Option.some.inj ho
      clear ho
      have ed20 : x 20 = .string X4 := hd 17 (by decide +kernel) _ _ rfl rfl
      clear hd hF
      have HX := Lib.hid hE
      clear hE
      rw [show actOf _ x = (⟨#[x 0, x 1, x 2, x 3, x 4, x 5, x 6, x 7, x 8, x 9, x 10, x 11, x 12, x 13, x 14, x 15, x 16, x 17, x 18, x 19, x 20, x 21], []⟩ : Act) from rfl]
      rw [ed20]
      clear ed20
      go_wp2_with fail
      exact ⟨_, rfl, Ext.rfl', rfl⟩
    | 19, _ =>
      refine ⟨fun o ho x wx hE hF hd => ?_⟩
      obtain rfl := Option.some.inj ho
      clear ho
      have ed21 : x 21 = .string X5 := hd 18 (by decide +kernel) _ _ rfl rfl
      clear hd hF
      have HX := Lib.hid hE
      clear hE
      rw [show actOf _ x = (⟨#[x 0, x 1, x 2, x 3, x 4, x 5, x 6, x 7, x 8, x 9, x 10, x 11, x 12, x 13, x 14, x 15, x 16, x 17, x 18, x 19, x 20, x 21], []⟩ : Act) from rfl]
      rw [ed21]
      clear ed21
      go_wp2_with fail
      exact ⟨_, rfl, Ext.rfl', rfl⟩
    | k + 20, h => exact absurd h (by simp)
  · intro x w2 hE hF hV
    have ez2 : x 2 = .string X5 := hV 19 _ _ rfl rfl
    rw [show actOf _ x = (⟨#[x 0, x 1, x 2, x 3, x 4, x 5, x 6, x 7, x 8, x 9, x 10, x 11, x 12, x 13, x 14, x 15, x 16, x 17, x 18, x 19, x 20, x 21], []⟩ : Act) from rfl, ez2]
    go_wp2_with fail
    go_ret
    rw [HX5.out]
    exact ⟨rfl, Ext.trans HE0.out hE⟩
end Go.Proofs.YtnofbjcikfofgaaGreat
