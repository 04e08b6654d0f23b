/- Separators ahead of parentheses: the plain law; the contract of gaps. Printed by gen_btgp.py. -/
import Derived.Test.YtkdbpcenehhopaaGreatBtFo
namespace Go.Proofs.YtkdbpcenehhopaaGreat
def isGap (c : UInt8) : Bool := c == 40 || c == 41
def sepsN : Nat → Bs
  | 0 => []
  | n + 1 => sepsN n ++ [if n % 2 = 0 then 32 else 10]
def gapsT (n : Nat) (l : Bs) : Bs := l.flatMap fun c => (if isGap c then sepsN n else []) ++ [c]
theorem sepsN_ok : ∀ n, (sepsN n).all isSep = true
  | 0 => rfl
  | n + 1 => by
    unfold sepsN
    rw [List.all_append, sepsN_ok n]
    by_cases h : n % 2 = 0
    · rw [if_pos h]; decide +kernel
    · rw [if_neg h]; decide +kernel
theorem sepsN_len : ∀ n, (sepsN n).length = n
  | 0 => rfl
  | n + 1 => by unfold sepsN; rw [List.length_append, sepsN_len n]; rfl
theorem gapsT_append (n : Nat) (a b : Bs) : gapsT n (a ++ b) = gapsT n a ++ gapsT n b := by unfold gapsT; rw [List.flatMap_append]
theorem gapsT_len (n : Nat) (l : Bs) : (gapsT n l).length ≤ (n + 1) * l.length := by
  induction l with
  | nil => simp [gapsT]
  | cons c r ih =>
    have e : gapsT n (c :: r) = ((if isGap c then sepsN n else []) ++ [c]) ++ gapsT n r := rfl
    have h : ((if isGap c then sepsN n else []) ++ [c]).length ≤ n + 1 := by
      rw [List.length_append]
      split
      · rw [sepsN_len]; simp
      · simp
    rw [e, List.length_append, List.length_cons, Nat.mul_add]
    omega
theorem gapsT_none {n : Nat} {l : Bs} (h : ∀ c ∈ l, isGap c = false) : gapsT n l = l := by
  induction l with
  | nil => rfl
  | cons c r ih =>
    have e : gapsT n (c :: r) = ((if isGap c then sepsN n else []) ++ [c]) ++ gapsT n r := rfl
    rw [e, h c List.mem_cons_self, ih (fun x hx => h x (List.mem_cons_of_mem _ hx))]
    rfl
theorem gapsT_seps {n : Nat} {l : Bs} (h : l.all isSep = true) : (gapsT n l).all isSep = true := by
  induction l with
  | nil => rfl
  | cons c r ih =>
    rw [List.all_cons, Bool.and_eq_true] at h
    have e : gapsT n (c :: r) = ((if isGap c then sepsN n else []) ++ [c]) ++ gapsT n r := rfl
    rw [e, List.all_append, List.all_append, ih h.2]
    have h1 : (if isGap c then sepsN n else []).all isSep = true := by split; exact sepsN_ok n; rfl
    rw [h1]
    simp [h.1]
/-- What stands ahead of a token when separators are put in. -/
def preG (n : Nat) (x : Bs × Tok) : Bs × Tok := (gapsT n x.1 ++ (if x.2.kind = 1 ∨ x.2.kind = 2 then sepsN n else []), x.2)
theorem run_nogap {c : UInt8} (h : isRun c = true) : isGap c = false := by
  unfold isGap
  by_cases h1 : c = 40
  · subst h1; exact absurd h (by decide +kernel)
  · by_cases h2 : c = 41
    · subst h2; exact absurd h (by decide +kernel)
    · simp [h1, h2]
theorem gapsT_piece {n : Nat} {t : Tok} (h : GoodT t) : gapsT n (pieceT t) = (if t.kind = 1 ∨ t.kind = 2 then sepsN n else []) ++ pieceT t := by
  by_cases h1 : t.kind = 1
  · have e : pieceT t = [40] := by unfold pieceT; rw [if_pos h1]
    rw [e, if_pos (.inl h1)]
    simp [gapsT, isGap]
  · by_cases h2 : t.kind = 2
    · have e : pieceT t = [41] := by unfold pieceT; rw [if_neg h1, if_pos h2]
      rw [e, if_pos (.inr h2)]
      simp [gapsT, isGap]
    · rw [if_neg (by omega)]
      refine gapsT_none fun c hc => run_nogap ?_
      rcases h with rfl | rfl | ⟨l, rfl, hl⟩ | ⟨z, rfl, _⟩
      · exact absurd rfl h1
      · exact absurd rfl h2
      · have e : pieceT (tokW l) = l := by simp [pieceT, tokW]
        rw [e] at hc
        exact isRun_low (List.all_eq_true.1 (allC_all hl).1 c hc)
      · have e : pieceT (tokN (z : Rat)) = fmtZ z := by simp [pieceT, tokN]
        rw [e] at hc
        exact isRun_numr (List.all_eq_true.1 (allC_all (fmtZ_numr z)).1 c hc)
theorem gaps_spell {n : Nat} : ∀ {L : List (Bs × Tok)}, OkSp L → gapsT n (spell L) = spell (L.map (preG n))
  | [], _ => rfl
  | (s, t) :: r, h => by
    show gapsT n (s ++ (pieceT t ++ spell r)) = (gapsT n s ++ _) ++ (pieceT t ++ spell (r.map (preG n)))
    rw [gapsT_append, gapsT_append, gaps_spell h.2.2.2, gapsT_piece h.2.1]
    simp
theorem gaps_head {n : Nat} {x : Bs × Tok} {r r' : List (Bs × Tok)} (h : Stops (spell (x :: r))) (hs : x.1.all isSep = true) (ht : GoodT x.2) : Stops (spell (preG n x :: r')) := by
  obtain ⟨s, t⟩ := x
  obtain ⟨y, ys, hy, -⟩ := piece_ne ht
  show Stops ((gapsT n s ++ _) ++ (pieceT t ++ spell r'))
  cases hg : gapsT n s ++ (if t.kind = 1 ∨ t.kind = 2 then sepsN n else []) with
  | cons c cs =>
    have ha : (c :: cs).all isSep = true := by
      rw [← hg, List.all_append, gapsT_seps hs]
      split
      · rw [sepsN_ok]; rfl
      · rfl
    rw [List.all_cons, Bool.and_eq_true] at ha
    refine stops_cons ?_ _
    cases hr : isRun c with
    | false => rfl
    | true => rw [(low_ne hr).2.2] at ha; exact absurd ha.1 (by simp)
  | nil =>
    have hs0 : s = [] := by
      have h1 := (List.append_eq_nil_iff.1 hg).1
      cases s with
      | nil => rfl
      | cons c cs =>
        have e : gapsT n (c :: cs) = ((if isGap c then sepsN n else []) ++ [c]) ++ gapsT n cs := rfl
        rw [e] at h1
        simp at h1
    subst hs0
    intro c hc
    refine h c ?_
    show (([] : Bs) ++ (pieceT t ++ spell r)).head? = some c
    rw [hy] at hc ⊢
    simpa using hc
theorem gaps_ok {n : Nat} : ∀ {L : List (Bs × Tok)}, OkSp L → OkSp (L.map (preG n))
  | [], _ => trivial
  | (s, t) :: r, h => by
    obtain ⟨h1, h2, h3, h4⟩ := h
    refine ⟨?_, h2, ?_, gaps_ok h4⟩
    · show (gapsT n s ++ _).all isSep = true
      rw [List.all_append, gapsT_seps h1]
      split
      · rw [sepsN_ok]; rfl
      · rfl
    · rcases h3 with h | h | ⟨h, h'⟩
      · exact .inl h
      · exact .inr (.inl h)
      · refine .inr (.inr ?_)
        cases r with
        | nil => exact absurd rfl h
        | cons x y => exact ⟨by simp, gaps_head h' h4.1 h4.2.1⟩
theorem rd_gaps (n : Nat) (us : List Tok) (h : ∀ t ∈ us, GoodT t) (hl : (gapsT n (fmtT (us ++ [tokC]))).length ≤ 65536) :
    Rd (gapsT n (fmtT (us ++ [tokC]))) 0 (us ++ [tokC]) ((gapsT n (fmtT (us ++ [tokC]))).length : Int) := by
  have hok := ok_spaced us true h
  have e := gaps_spell (n := n) hok
  have hm : ((spaced true (us ++ [tokC])).map (preG n)).map (·.2) = us ++ [tokC] := by
    rw [List.map_map, ← spaced_toks (us ++ [tokC]) true]
    rw [spaced_toks]
    exact spaced_toks (us ++ [tokC]) true
  unfold fmtT at hl ⊢
  rw [e] at hl ⊢
  have := rd_spell ((spaced true (us ++ [tokC])).map (preG n)) [] [] (gaps_ok hok) (by simpa using hl)
  rw [hm] at this
  simpa using this
open Go.RowKit
theorem take_gap (n : Nat) (l : Bs) {j : Nat} (h : j < l.length) : gapsT n (l.take (j + 1)) = (gapsT n (l.take j) ++ (if isGap l[j] then sepsN n else [])) ++ [l[j]] := by
  rw [List.take_succ_eq_append_getElem h, gapsT_append]
  simp [gapsT]
theorem take_len (n : Nat) (l : Bs) (j : Nat) : (gapsT n (l.take j)).length ≤ (n + 1) * l.length := by
  have h1 := gapsT_len n (l.take j)
  have h2 : (l.take j).length ≤ l.length := by simp; omega
  exact Nat.le_trans h1 (Nat.mul_le_mul_left _ h2)
theorem add_bs (a b : Bs) (h : a.length + b.length ≤ 9223372036854775807) (W : World) : (Op.stringOp .add (bs a) (bs b)).run Tryz.prog W = .ok (.string (bs (a ++ b))) W := by
  rw [run_string_add_sum _ _ _ (show (bs a).size + (bs b).size ≤ 9223372036854775807 by rw [bs_size, bs_size]; exact h), bs_append]
set_option maxRecDepth 100000 in
set_option maxHeartbeats 16000000 in
theorem gaps_any (S : ByteArray) (m : Nat) (w : World) (hS : S.size ≤ 5000) (hm : m ≤ 5) :
    Calls Tryz.prog 23 #[.string S, .int .i64 (m : Int)] w fun e w' => e = .returned (.string (bs (gapsT m S.data.toList))) ∧ Ext w w' := by
  have HM := Lib.hid hm
  have HS := Lib.hid hS
  clear hm hS
  go_enter Tryz.func23, Tryz.ntmps23
  go_wp2_with fail
  go_loopw [5, 6] (fun ou i wr => ∃ j : Nat, j ≤ S.size ∧ ou = .string (bs (gapsT m (S.data.toList.take j))) ∧ i = .int .i64 (j : Int) ∧ Hid (Ext w wr)) (fun _ i _ => S.size - (intOf i).toNat)
  case atStart => exact ⟨0, by omega, rfl, rfl, Ext.rfl'⟩
  case round =>
    obtain ⟨j, hj, rfl, rfl, HE⟩ := hrel
    by_cases hlt : j < S.size
    · have hbv : decide ((j : Int) < (S.size : Int)) = true := by simp; omega
      have hbv2 : decide (j < S.size) = true := by simp; omega
      have hz0 : (0 : Int) ≤ (j : Int) := by omega
      have hzn : (j : Int) < (S.size : Int) := by omega
      have HST := Lib.hid (take_gap m S.data.toList (j := j) hlt)
      have HLN := Lib.hid (take_len m S.data.toList j)
      have HLN2 : Hid ((m + 1) * S.data.toList.length ≤ 30000) := by
        have := HM.out
        have := HS.out
        exact Nat.le_trans (Nat.mul_le_mul (show m + 1 ≤ 6 by omega) (show S.data.toList.length ≤ 5000 from HS.out)) (by omega)
      generalize gapsT m (S.data.toList.take j) = acc at *
      have hj5 : j ≤ 5000 := by have := HS.out; omega
      have HG : Hid (isGap S[j] = (S[j] == 40 || S[j] == 41)) := rfl
      by_cases e40 : S[j] = 40
      · have q40 : ((S[j].toNat : Int) == 40) = true := by simp [e40]
        have HGV : isGap S.data.toList[j] = true := by rw [show S.data.toList[j] = S[j] from rfl, e40]; rfl
        have HB : S.data.toList[j] = 40 := e40
        go_wp2_with fail
        go_loopw [5, 7] (fun ou i wq => ∃ k : Nat, k ≤ m ∧ ou = .string (bs (acc ++ sepsN k)) ∧ i = .int .i64 (k : Int) ∧ wq = wr) (fun _ i _ => m - (intOf i).toNat)
        case atStart => exact ⟨0, by omega, by simp [sepsN], rfl, rfl⟩
        case round =>
          obtain ⟨k, hk, rfl, rfl, rfl⟩ := hrel
          by_cases hl2 : k < m
          · have c1 : decide ((k : Int) < (m : Int)) = true := by simp; omega
            have hk5 : k ≤ 5 := by have := HM.out; omega
            have c2 : decide (k < m) = true := by simp; omega
            by_cases hp : k % 2 = 0
            · skip
              have hadd : ∀ W : World, (Op.stringOp .add (bs (acc ++ sepsN k)) (⟨#[32]⟩ : ByteArray)).run Tryz.prog W = .ok (.string (bs ((acc ++ sepsN k) ++ [32]))) W := fun W => add_bs _ [32] (by rw [List.length_append, sepsN_len]; have := HLN.out; have := HLN2.out; have := HM.out; simp only [List.length_cons, List.length_nil]; omega) W
              have p1 : ((k : Int) % 2 == 0) = true := by simp; omega
              go_wp2_with fail
              go_roundw
              case rel =>
                exact ⟨k + 1, by omega, by simp [sepsN, hp], by go_num, by first | rfl | trivial⟩
              case measure =>
                simp [intOf]; omega
            · skip
              have hadd : ∀ W : World, (Op.stringOp .add (bs (acc ++ sepsN k)) (⟨#[10]⟩ : ByteArray)).run Tryz.prog W = .ok (.string (bs ((acc ++ sepsN k) ++ [10]))) W := fun W => add_bs _ [10] (by rw [List.length_append, sepsN_len]; have := HLN.out; have := HLN2.out; have := HM.out; simp only [List.length_cons, List.length_nil]; omega) W
              have p1 : ((k : Int) % 2 == 0) = false := by simp; omega
              go_wp2_with fail
              go_roundw
              case rel =>
                exact ⟨k + 1, by omega, by simp [sepsN, hp], by go_num, by first | rfl | trivial⟩
              case measure =>
                simp [intOf]; omega
          · obtain rfl : k = m := by omega
            have c1 : decide ((k : Int) < (k : Int)) = false := by simp
            have c2 : decide (k < k) = false := by simp
            have hby : Lib.Bytes (wr.alloc (.cells #[.int .u8 40] 5)) wr.heap.size 0 (bs [40]) := fun i hi => by
              have hb := Blk.new wr 5 #[.int .u8 40]
              obtain rfl : i = 0 := by have : (bs [40]).size = 1 := rfl; omega
              rw [hb.cell]
              rfl
            have hcv := Lib.run_convert_whole (P := Tryz.prog) (wr.alloc (.cells #[.int .u8 40] 5)) 83 5 9 (by kernel_rfl) (by kernel_rfl) (by kernel_rfl) wr.heap.size 0 (bs [40]) hby 1
            rw [show (bs [40]).size = 1 from rfl] at hcv
            have hadd : ∀ W : World, (Op.stringOp .add (bs (acc ++ sepsN k)) (bs [40])).run Tryz.prog W = .ok (.string (bs ((acc ++ sepsN k) ++ [40]))) W := fun W => add_bs _ [40] (by (try rw [List.length_append]); have := HLN.out; have := HLN2.out; have := HM.out; (try rw [sepsN_len]); simp only [List.length_cons, List.length_nil]; omega) W
            clear hby
            have hEN : Ext wr (wr.alloc (.cells #[.int .u8 40] 5)) := Ext.al Ext.rfl' _
            go_wp2_with fail
            go_roundw
            case rel => exact ⟨j + 1, by omega, by rw [HST.out, if_pos HGV, HB]; try simp, by go_num, Ext.trans HE.out hEN⟩
            case measure => simp [intOf]; omega
      · by_cases e41 : S[j] = 41
        · have q40 : ((S[j].toNat : Int) == 40) = false := by simp only [beq_eq_false_iff_ne]; intro h; exact e40 (UInt8.toNat_inj.1 (by have : ((40 : UInt8)).toNat = 40 := rfl; omega))
          have q41 : ((S[j].toNat : Int) == 41) = true := by simp [e41]
          have HGV : isGap S.data.toList[j] = true := by rw [show S.data.toList[j] = S[j] from rfl, e41]; rfl
          have HB : S.data.toList[j] = 41 := e41
          go_wp2_with fail
          go_loopw [5, 7] (fun ou i wq => ∃ k : Nat, k ≤ m ∧ ou = .string (bs (acc ++ sepsN k)) ∧ i = .int .i64 (k : Int) ∧ wq = wr) (fun _ i _ => m - (intOf i).toNat)
          case atStart => exact ⟨0, by omega, by simp [sepsN], rfl, rfl⟩
          case round =>
            obtain ⟨k, hk, rfl, rfl, rfl⟩ := hrel
            by_cases hl2 : k < m
            · have c1 : decide ((k : Int) < (m : Int)) = true := by simp; omega
              have hk5 : k ≤ 5 := by have := HM.out; omega
              have c2 : decide (k < m) = true := by simp; omega
              by_cases hp : k % 2 = 0
              · skip
                have hadd : ∀ W : World, (Op.stringOp .add (bs (acc ++ sepsN k)) (⟨#[32]⟩ : ByteArray)).run Tryz.prog W = .ok (.string (bs ((acc ++ sepsN k) ++ [32]))) W := fun W => add_bs _ [32] (by rw [List.length_append, sepsN_len]; have := HLN.out; have := HLN2.out; have := HM.out; simp only [List.length_cons, List.length_nil]; omega) W
                have p1 : ((k : Int) % 2 == 0) = true := by simp; omega
                go_wp2_with fail
                go_roundw
                case rel =>
                  exact ⟨k + 1, by omega, by simp [sepsN, hp], by go_num, by first | rfl | trivial⟩
                case measure =>
                  simp [intOf]; omega
              · skip
                have hadd : ∀ W : World, (Op.stringOp .add (bs (acc ++ sepsN k)) (⟨#[10]⟩ : ByteArray)).run Tryz.prog W = .ok (.string (bs ((acc ++ sepsN k) ++ [10]))) W := fun W => add_bs _ [10] (by rw [List.length_append, sepsN_len]; have := HLN.out; have := HLN2.out; have := HM.out; simp only [List.length_cons, List.length_nil]; omega) W
                have p1 : ((k : Int) % 2 == 0) = false := by simp; omega
                go_wp2_with fail
                go_roundw
                case rel =>
                  exact ⟨k + 1, by omega, by simp [sepsN, hp], by go_num, by first | rfl | trivial⟩
                case measure =>
                  simp [intOf]; omega
            · obtain rfl : k = m := by omega
              have c1 : decide ((k : Int) < (k : Int)) = false := by simp
              have c2 : decide (k < k) = false := by simp
              have hby : Lib.Bytes (wr.alloc (.cells #[.int .u8 41] 5)) wr.heap.size 0 (bs [41]) := fun i hi => by
                have hb := Blk.new wr 5 #[.int .u8 41]
                obtain rfl : i = 0 := by have : (bs [41]).size = 1 := rfl; omega
                rw [hb.cell]
                rfl
              have hcv := Lib.run_convert_whole (P := Tryz.prog) (wr.alloc (.cells #[.int .u8 41] 5)) 83 5 9 (by kernel_rfl) (by kernel_rfl) (by kernel_rfl) wr.heap.size 0 (bs [41]) hby 1
              rw [show (bs [41]).size = 1 from rfl] at hcv
              have hadd : ∀ W : World, (Op.stringOp .add (bs (acc ++ sepsN k)) (bs [41])).run Tryz.prog W = .ok (.string (bs ((acc ++ sepsN k) ++ [41]))) W := fun W => add_bs _ [41] (by (try rw [List.length_append]); have := HLN.out; have := HLN2.out; have := HM.out; (try rw [sepsN_len]); simp only [List.length_cons, List.length_nil]; omega) W
              clear hby
              have hEN : Ext wr (wr.alloc (.cells #[.int .u8 41] 5)) := Ext.al Ext.rfl' _
              go_wp2_with fail
              go_roundw
              case rel => exact ⟨j + 1, by omega, by rw [HST.out, if_pos HGV, HB]; try simp, by go_num, Ext.trans HE.out hEN⟩
              case measure => simp [intOf]; omega
        · have q40 : ((S[j].toNat : Int) == 40) = false := by simp only [beq_eq_false_iff_ne]; intro h; exact e40 (UInt8.toNat_inj.1 (by have : ((40 : UInt8)).toNat = 40 := rfl; omega))
          have q41 : ((S[j].toNat : Int) == 41) = false := by simp only [beq_eq_false_iff_ne]; intro h; exact e41 (UInt8.toNat_inj.1 (by have : ((41 : UInt8)).toNat = 41 := rfl; omega))
          have HGV : ¬ isGap S.data.toList[j] = true := by rw [show S.data.toList[j] = S[j] from rfl]; unfold isGap; simp [e40, e41]
          have HB : S.data.toList[j] = S[j] := rfl
          go_wp2_with fail
          go_loopw [5, 7] (fun ou i wq => ∃ k : Nat, k ≤ m ∧ ou = .string (bs acc) ∧ i = .int .i64 (k : Int) ∧ wq = wr) (fun _ i _ => m - (intOf i).toNat)
          case atStart => exact ⟨0, by omega, by simp, rfl, rfl⟩
          case round =>
            obtain ⟨k, hk, rfl, rfl, rfl⟩ := hrel
            by_cases hl2 : k < m
            · have c1 : decide ((k : Int) < (m : Int)) = true := by simp; omega
              have hk5 : k ≤ 5 := by have := HM.out; omega
              have c2 : decide (k < m) = true := by simp; omega
              have hby : Lib.Bytes (wr.alloc (.cells #[.int .u8 (S[j].toNat : Int)] 5)) wr.heap.size 0 (bs [S[j]]) := fun i hi => by
                have hb := Blk.new wr 5 #[.int .u8 (S[j].toNat : Int)]
                obtain rfl : i = 0 := by have : (bs [S[j]]).size = 1 := rfl; omega
                rw [hb.cell]
                rfl
              have hcv := Lib.run_convert_whole (P := Tryz.prog) (wr.alloc (.cells #[.int .u8 (S[j].toNat : Int)] 5)) 83 5 9 (by kernel_rfl) (by kernel_rfl) (by kernel_rfl) wr.heap.size 0 (bs [S[j]]) hby 1
              rw [show (bs [S[j]]).size = 1 from rfl] at hcv
              have hadd : ∀ W : World, (Op.stringOp .add (bs acc) (bs [S[j]])).run Tryz.prog W = .ok (.string (bs (acc ++ [S[j]]))) W := fun W => add_bs _ [S[j]] (by (try rw [List.length_append]); have := HLN.out; have := HLN2.out; have := HM.out; (try rw [sepsN_len]); simp only [List.length_cons, List.length_nil]; omega) W
              clear hby
              have hEN : Ext wr (wr.alloc (.cells #[.int .u8 (S[j].toNat : Int)] 5)) := Ext.al Ext.rfl' _
              go_wp2_with fail
              go_roundw
              case rel => exact ⟨j + 1, by omega, by rw [HST.out, if_neg HGV, List.append_nil, HB]; try simp, by go_num, Ext.trans HE.out hEN⟩
              case measure => simp [intOf]; omega
            · obtain rfl : k = m := by omega
              have c1 : decide ((k : Int) < (k : Int)) = false := by simp
              have c2 : decide (k < k) = false := by simp
              have hby : Lib.Bytes (wr.alloc (.cells #[.int .u8 (S[j].toNat : Int)] 5)) wr.heap.size 0 (bs [S[j]]) := fun i hi => by
                have hb := Blk.new wr 5 #[.int .u8 (S[j].toNat : Int)]
                obtain rfl : i = 0 := by have : (bs [S[j]]).size = 1 := rfl; omega
                rw [hb.cell]
                rfl
              have hcv := Lib.run_convert_whole (P := Tryz.prog) (wr.alloc (.cells #[.int .u8 (S[j].toNat : Int)] 5)) 83 5 9 (by kernel_rfl) (by kernel_rfl) (by kernel_rfl) wr.heap.size 0 (bs [S[j]]) hby 1
              rw [show (bs [S[j]]).size = 1 from rfl] at hcv
              have hadd : ∀ W : World, (Op.stringOp .add (bs acc) (bs [S[j]])).run Tryz.prog W = .ok (.string (bs (acc ++ [S[j]]))) W := fun W => add_bs _ [S[j]] (by (try rw [List.length_append]); have := HLN.out; have := HLN2.out; have := HM.out; (try rw [sepsN_len]); simp only [List.length_cons, List.length_nil]; omega) W
              clear hby
              have hEN : Ext wr (wr.alloc (.cells #[.int .u8 (S[j].toNat : Int)] 5)) := Ext.al Ext.rfl' _
              go_wp2_with fail
              go_roundw
              case rel => exact ⟨j + 1, by omega, by rw [HST.out, if_neg HGV, List.append_nil, HB]; try simp, by go_num, Ext.trans HE.out hEN⟩
              case measure => simp [intOf]; omega
    · obtain rfl : j = S.size := by omega
      have hbv : decide ((S.size : Int) < (S.size : Int)) = false := by simp
      have hbv2 : decide (S.size < S.size) = false := by simp
      go_wp2_with fail
      go_ret
      refine ⟨?_, HE.out⟩
      rw [List.take_of_length_le (show S.data.toList.length ≤ S.size from Nat.le_refl _)]
      rfl
end Go.Proofs.YtkdbpcenehhopaaGreat
