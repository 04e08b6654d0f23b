/- A part of the proof. -/
import Derived.Test.YtjinpfnefeiooaaGreatNums
import Derived.Test.YtjinpfnefeiooaaGreatClonX
namespace Go.Proofs.YtjinpfnefeiooaaGreat
open Go.RowKit

def HalfAt (w : World) (A : Option Addr) (n : Nat) (ds : List Nat) : Prop :=
 ds.length = n ∧ Halves ds ∧ (0 < n → ∃ b off, A = some ⟨b, off, none⟩ ∧ b < w.heap.size ∧ ∀ i, i < n → w.cell? ⟨b, off + i, none⟩ = some (.int .i64 (ds.getD i 0 : Nat)))
theorem HalfAt.below {w w' : World} {A : Option Addr} {n : Nat} {xs : List Nat} (h : HalfAt w A n xs) (hb : Ext w w') : HalfAt w' A n xs := by
 refine ⟨h.1, h.2.1, fun hn => ?_⟩
 obtain ⟨b, off, ha, hlt, hc⟩ := h.2.2 hn
 exact ⟨b, off, ha, Nat.lt_of_lt_of_le hlt hb.size, fun i hi => Ext.cellOf hb (hc i hi)⟩
theorem HalfAt.take {w : World} {A : Option Addr} {n : Nat} {xs : List Nat} (h : HalfAt w A n xs) {k : Nat} (hk : k ≤ n) : HalfAt w A k (xs.take k) := by
 refine ⟨by rw [List.length_take, h.1]; omega, h.2.1.take k, fun hk0 => ?_⟩
 obtain ⟨b, off, ha, hlt, hc⟩ := h.2.2 (by omega)
 exact ⟨b, off, ha, hlt, fun i hi => by rw [getD_take hi]; exact hc i (by omega)⟩
theorem HalfAt.nil (w : World) (A : Option Addr) : HalfAt w A 0 [] := ⟨rfl, Halves.nil, fun h => absurd h (by omega)⟩
theorem HalfAt.trim {w : World} {A : Option Addr} {n : Nat} {xs : List Nat} (h : HalfAt w A n xs) : HalfAt w A (halfOf (hOf xs)).length (halfOf (hOf xs)) := by
 have hl := half_len_ge h.2.1
 have h1 := h.take (k := (halfOf (hOf xs)).length) (by rw [← h.1]; exact hl)
 have e : xs.take (halfOf (hOf xs)).length = halfOf (hOf xs) := by
  conv => lhs; arg 2; rw [half_split h.2.1]
  simp
 rwa [e] at h1
theorem hOf_take_succ (xs : List Nat) (k : Nat) : hOf (xs.take (k + 1)) = hOf (xs.take k) + 65536 ^ k * xs.getD k 0 := by
 rcases Nat.lt_or_ge k xs.length with h | h
 ·rw [List.take_succ_eq_append_getElem h, hOf_snoc, List.length_take, Nat.min_eq_left (by omega)]
  simp [List.getD, h]
 ·rw [List.take_of_length_le h, List.take_of_length_le (by omega)]
  simp [List.getD, h]
theorem htrim_end {xs : List Nat} (hw : Halves xs) {k : Nat} (hk : k + 1 ≤ xs.length) (hv : hOf (xs.take (k + 1)) = hOf xs) (hx : xs.getD k 0 ≠ 0) : k + 1 = (halfOf (hOf xs)).length := by
 rw [← hv, halfOf_hOf (hw.take _)]
 ·rw [List.length_take]; omega
 ·intro hne
  have : (xs.take (k + 1)).getLast hne = xs.getD k 0 := by
   rw [List.getLast_eq_getElem]
   have hl : (xs.take (k + 1)).length = k + 1 := by rw [List.length_take]; omega
   simp [hl, List.getElem_take, List.getD, show k < xs.length by omega]
  rw [this]; exact hx
set_option maxHeartbeats 800000 in
theorem rtrim_any (A : Option Addr) (n c : Nat) (xs : List Nat) (w : World) (h : HalfAt w A n xs) (hn : n ≤ c) (hc : c ≤ maxLen) :
  Calls Tryz.prog 130 #[.slice A n c] w fun e w' => e = .returned (.slice A (halfOf (hOf xs)).length c) ∧ w = w' := by
 unfold maxLen at hc
 have HL := LH h.1
 have HW := h.2.1
 have HC := LH h.2.2
 clear h
 go_enter Tryz.func130, Tryz.ntmps130
 go_wp2_with fail
 go_loop [3] (fun v => ∃ k : Nat, k ≤ n ∧ v = .int .i64 k ∧ Hid (hOf (xs.take k) = hOf xs)) (fun v => (intOf v).toNat)
 case atStart => exact ⟨n, Nat.le_refl _, rfl, by unfold Hid; rw [List.take_of_length_le (by rw [HL.out]; exact Nat.le_refl _)]⟩
 case round =>
  obtain ⟨k, hk, rfl, HV⟩ := hrel
  by_cases h0 : k = 0
  ·subst h0
   have HE : Hid (0 = (halfOf (hOf xs)).length) := by
    have := HV.out
    simp [hOf] at this
    unfold Hid
    rw [← this, halfOf_zero]
    rfl
   go_wp2_with fail
   go_ret
   rw [← HE.out]
   exact ⟨rfl, rfl⟩
  ·obtain ⟨j, rfl⟩ : ∃ j, k = j + 1 := ⟨k - 1, by omega⟩
   clear h0
   obtain ⟨b, off, rfl, hb, hcell⟩ := HC.out (by omega)
   have c1 := hcell j (by omega)
   clear hcell
   have hjc : j + 1 ≤ c := by omega
   have hb1 : decide (0 < ((j + 1 : Nat) : Int)) = true := by simp
   have HS := LH (hOf_take_succ xs j)
   have HT := LH (fun h => htrim_end HW (k := j) (by rw [HL.out]; omega) HV.out h)
   generalize xs.getD j 0 = x at *
   by_cases hx : x = 0
   ·have hxb : ((x : Int) == 0) = true := by simp [hx]
    have HX := LH hx
    clear hx
    go_wp2_with fail
    go_round
    case rel => exact ⟨j, by omega, by go_num, by have h1 := HS.out; have h2 := HV.out; rw [HX.out] at h1; unfold Hid; rw [← h2, h1]; simp⟩
    case measure => simp [intOf]
   ·have hxb : ((x : Int) == 0) = false := by simp [hx]
    have HE := LH (HT.out hx)
    clear hx
    go_wp2_with fail
    go_ret
    rw [← HE.out]
    exact ⟨rfl, rfl⟩
set_option maxHeartbeats 800000 in
theorem at_any (A : Option Addr) (n c : Nat) (ds : List Nat) (i : Nat) (w : World) (h : HalfAt w A n ds) (hi : i ≤ 9223372036854775806) :
  Calls Tryz.prog 131 #[.slice A n c, .int .i64 (i : Int)] w fun e w' => e = .returned (.int .i64 (ds.getD i 0 : Nat)) ∧ w = w' := by
 by_cases hlt : i < n
 ·obtain ⟨b, off, rfl, hb, hcell⟩ := h.2.2 (by omega)
  have c1 := hcell i hlt
  have hbv : decide ((i : Int) < (n : Int)) = true := by simp; omega
  generalize ds.getD i 0 = x at *
  have hn := h.1
  clear hcell h hn
  go_enter Tryz.func131, Tryz.ntmps131
  go_wp2_with fail
  go_ret
  exact ⟨rfl, rfl⟩
 ·have hbv : decide ((i : Int) < (n : Int)) = false := by simp; omega
  have HZ : Hid (ds.getD i 0 = 0) := by have := h.1; unfold Hid; simp [List.getD, show ds.length ≤ i by omega]
  clear h
  go_enter Tryz.func131, Tryz.ntmps131
  go_wp2_with fail
  go_ret
  rw [HZ.out]
  exact ⟨rfl, rfl⟩
end Go.Proofs.YtjinpfnefeiooaaGreat
namespace Go.Proofs.YtjinpfnefeiooaaGreat
open Go.RowKit

theorem info_int : (Tryz.prog.info? 3).map (fun i => (i.zero, i.size, i.bytes)) = some (some (.int .i64 0), 1, 8) := by kernel_rfl
def i64s (S : List Nat) : List Value := S.map fun (x : Nat) => Value.int .i64 (x : Int)
theorem i64s_len (S : List Nat) : (i64s S).length = S.length := by simp [i64s]
theorem i64s_append (S T : List Nat) : i64s (S ++ T) = i64s S ++ i64s T := by simp [i64s]
theorem own_nil (w : World) (B e size : Nat) : w.ownsRow B e size (.slice none 0 0) 0 [] := ⟨by simp, .inl ⟨rfl, rfl⟩⟩
theorem own_half {w : World} {base n : Nat} {v : Value} {ds : List Nat} (h : w.ownsRow base 3 1 v n (i64s ds)) (hw : Halves ds) : ∃ A c, v = .slice A n c ∧ n ≤ c ∧ c ≤ maxLen ∧ HalfAt w A n ds := by
 have hl : ds.length = n := by have := h.1; simpa [i64s] using this
 rcases h.2 with ⟨rfl, hn⟩ | ⟨g, cap, cur, rfl, hb, hh, h3, h4, _⟩
 ·subst hn
  exact ⟨none, 0, rfl, Nat.le_refl _, by simp [maxLen], hl, hw, fun h => absurd h (by omega)⟩
 ·refine ⟨_, _, rfl, h3, h4, hl, hw, fun _ => ⟨g, 0, rfl, (own_lt h rfl).1, fun i hi => ?_⟩⟩
  rw [Nat.zero_add, h.cellAt i (by omega)]
  simp [i64s, List.getD, show i < ds.length by omega]
theorem take_snocN (l : List Nat) {k : Nat} (h : k < l.length) : l.take (k + 1) = l.take k ++ [l.getD k 0] := by
 rw [List.take_succ_eq_append_getElem h]
 simp [List.getD, h]
def digs : List Nat → List Nat
 | [] => []
 | x :: r => x % 65536 :: x / 65536 :: digs r
theorem digs_append (a b : List Nat) : digs (a ++ b) = digs a ++ digs b := by
 induction a with
 | nil => rfl
 | cons x r ih => simp [digs, ih]
theorem digs_val : ∀ xs : List Nat, hOf (digs xs) = natOf xs
 | [] => rfl
 | x :: r => by
  simp only [digs, hOf, natOf, digs_val r]
  have := Nat.mod_add_div x 65536
  omega
theorem digs_half : ∀ {xs : List Nat}, Words xs → Halves (digs xs)
 | [], _ => Halves.nil
 | x :: r, h => Halves.cons (Nat.mod_lt _ (by omega)) (Halves.cons (by have := h.head; omega) (digs_half h.tail))
theorem digs_len : ∀ xs : List Nat, (digs xs).length = 2 * xs.length
 | [] => rfl
 | x :: r => by simp only [digs, List.length_cons, digs_len r]; omega
set_option maxRecDepth 100000 in
set_option maxHeartbeats 4000000 in
theorem halves_any (A : Option Addr) (n c : Nat) (xs : List Nat) (w : World) (h : WordsAt w A n xs) (hn : n ≤ 1073741824) :
  Calls Tryz.prog 100 #[.slice A n c] w fun e w' => ∃ A' c', e = .returned (.slice A' (halfOf (natOf xs)).length c') ∧ HalfAt w' A' (halfOf (natOf xs)).length (halfOf (natOf xs)) ∧ (halfOf (natOf xs)).length ≤ c' ∧ c' ≤ maxLen ∧ Ext w w' := by
 obtain ⟨i0, hi, hz0, hz1, hz2⟩ := info_parts info_int
 have HL := LH h.1
 have HW := LH h.2.1
 have HC := LH h.2.2
 have HI0 := LH (And.intro hi (And.intro hz0 (And.intro hz1 hz2)))
 clear h hi hz0 hz1 hz2
 go_enter Tryz.func100, Tryz.ntmps100
 go_wp2_with fail
 go_loopw [3, 4] (fun v i wr => ∃ k : Nat, k ≤ n ∧ i = .int .i64 k ∧ Hid (Ext w wr ∧ wr.ownsRow w.heap.size 3 1 v (2 * k) (i64s (digs (xs.take k))))) (fun _ i _ => n - (intOf i).toNat)
 case atStart => exact ⟨0, by omega, rfl, Ext.rfl', own_nil _ _ _ _⟩
 case round =>
  obtain ⟨k, hk, rfl, HI⟩ := hrel
  by_cases hlt : k < n
  ·obtain ⟨b, off, rfl, hb, hcell⟩ := HC.out (by omega)
   have c1 := Ext.cellOf HI.out.1 (hcell k hlt)
   have hbv : decide ((k : Int) < (n : Int)) = true := by simp; omega
   have hx := HW.out.getD k
   have HT : Hid (digs (xs.take (k + 1)) = digs (xs.take k) ++ [xs.getD k 0 % 65536, xs.getD k 0 / 65536]) := by
    unfold Hid
    rw [take_snocN xs (by rw [HL.out]; exact hlt), digs_append]
    rfl
   generalize xs.getD k 0 = x at *
   obtain ⟨lo, hlo⟩ : ∃ v, x % 65536 = v := ⟨_, rfl⟩
   obtain ⟨hi, hhi⟩ : ∃ v, x / 65536 = v := ⟨_, rfl⟩
   rw [hlo, hhi] at HT
   have hloz : (x : Int) % 65536 = (lo : Int) := by omega
   have hhiz : (x : Int) / 65536 = (hi : Int) := by omega
   have hlo1 : lo < 65536 := by omega
   have hhi1 : hi < 65536 := by omega
   clear hlo hhi hcell
   have HO := LH HI.out.2
   have HE := LH HI.out.1
   clear HI
   go_wp2_with fail
   refine wp_region_lex (C := InX wr.drew u3.ownBlock.toList) (by kernel_rfl) (by kernel_rfl) (inX_self _ _) ?_
   have hz0 : (0 : Int) ≤ (k : Int) := by omega
   have hzn : (k : Int) < (n : Int) := by omega
   have hnb : b ∉ u3.ownBlock.toList := by
    intro hm
    have := (own_lt HO.out (g := b) (by simpa using hm)).2
    omega
   have c1' : wr.drew.cell? ⟨b, off + k, none⟩ = some (.int .u32 (x : Int)) := c1
   have x0 := fun y : ExtX wr.drew u3.ownBlock.toList => y.cell (p := ⟨b, off + k, none⟩) c1' hnb
   have HO2 : Hid (wr.drew.ownsRow w.heap.size 3 1 u3 (2 * k) (i64s (digs (xs.take k)))) := HO.out
   have HE2 : Hid (Ext w wr.drew) := HE.out.drew
   clear c1 c1' HO HE
   generalize wr.drew = wd at *
   repeat (refine wpLex_still (by rfl) ?_; go_big_quiet_step (fail); refine wpQuiet_nil ?_)
   refine wpLex_move (by rfl) (by rfl) ?_
   go_wp2_with fail
   refine And.intro (inX_of_ext _ (Ext.al Ext.rfl' _)) ?_
   have hs1 : wd.heap.size < (wd.alloc (.cells #[.int .i64 (lo : Int), .int .i64 (hi : Int)] 3)).heap.size := by simp
   have HO3 := LH (own_keep (w' := wd.alloc (.cells #[.int .i64 (lo : Int), .int .i64 (hi : Int)] 3)) HO2.out (fun g hg => Below.heap_alloc wd _ g (own_lt HO2.out hg).1))
   have HE3 : Hid (Ext w (wd.alloc (.cells #[.int .i64 (lo : Int), .int .i64 (hi : Int)] 3))) := Ext.al HE2.out _
   have HX3 := LH (inX_of_ext u3.ownBlock.toList (Ext.al (Ext.rfl' (w := wd)) (.cells #[.int .i64 (lo : Int), .int .i64 (hi : Int)] 3)))
   have HNW := LH (World.news_of_block (cs := #[.int .i64 (lo : Int), .int .i64 (hi : Int)]) (t := 3) (fr := (0, 0)) (heap_alloc_new wd (.cells #[.int .i64 (lo : Int), .int .i64 (hi : Int)] 3)))
   generalize wd.alloc (.cells #[.int .i64 (lo : Int), .int .i64 (hi : Int)] 3) = w3 at *
   refine wpLex_move (by rfl) (by rfl) ?_
   refine wpList_append_atW _ rfl (.tmp 11) (.tmp 24) 120 rfl w.heap.size 3 i0 _ 1 8 Tryz.underlying120 HI0.out.1 HI0.out.2.1 HI0.out.2.2.1 HI0.out.2.2.2 rfl (by omega) u3 (2 * k) _ rfl HO3.out ⟨wd.heap.size, 0, none⟩ 2 2 [.int .i64 (lo : Int), .int .i64 (hi : Int)] rfl rfl HNW.out (by simp [Value.oneCell']) (.inr (by omega)) (by simp [maxLen]; omega) (by omega) (HE3.out.size) ?_
   intro g cap w4 hown hgr hgg
   go_wp2_with fail
   refine And.intro (inX_grown HX3.out hgr (fun g hg => by simpa using hg)) ?_
   repeat (refine wpLex_still (by rfl) ?_; go_big_quiet_step (fail); refine wpQuiet_nil ?_)
   refine wpLex_nil ?_
   have HO4 : Hid (Ext w w4 ∧ w4.ownsRow w.heap.size 3 1 (.slice (some ⟨g, 0, none⟩) (2 * k + 2) cap) (2 * k + 2) (i64s (digs (xs.take (k + 1))))) := by
    refine ⟨ext_grownW HE3.out hgr (fun g hg => (own_lt HO3.out hg).2), ?_⟩
    rw [HT.out, i64s_append]
    exact hown
   clear hown hgr hgg HO3 HO2 HNW HX3 x0
   go_wp2_with fail
   go_roundw
   case rel => exact ⟨k + 1, by omega, by go_num, HO4.out.1, HO4.out.2⟩
   case measure => simp [intOf]; omega
  ·have hbv : decide ((k : Int) < (n : Int)) = false := by simp; omega
   have hF : xs.take k = xs := List.take_of_length_le (by rw [HL.out]; omega)
   obtain ⟨hE, hown⟩ := HI.out
   rw [hF] at hown
   obtain ⟨A', c', rfl, h1, h2, h3⟩ := own_half hown (digs_half HW.out)
   have HV : Hid (hOf (digs xs) = natOf xs) := digs_val xs
   have HH := LH h3
   have HEX := LH hE
   clear HI hown hF h3 hE
   go_wp2_with fail
   refine (rtrim_any A' (2 * k) c' (digs xs) wr HH.out h1 h2).mono ?_
   rintro e w1 ⟨rfl, rfl⟩
   rw [HV.out]
   have HT := LH HH.out.trim
   rw [HV.out] at HT
   have hl := half_len_ge HH.out.2.1
   rw [HV.out, HH.out.1] at hl
   go_wp2_with fail
   go_ret
   exact ⟨_, _, rfl, HT.out, by omega, h2, HEX.out⟩
end Go.Proofs.YtjinpfnefeiooaaGreat
