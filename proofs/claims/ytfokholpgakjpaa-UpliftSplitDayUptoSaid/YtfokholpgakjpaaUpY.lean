/- Slicing as one equation; contract of pylonlaw37.long. -/
import Derived.Test.YtfokholpgakjpaaUpX
import Derived.Deep.Cut
namespace Go.Proofs.Ytfokholpgakjpaa
open Go.RowKit

theorem info_boolU : (Try.prog.info? 4).map (fun i => (i.zero, i.size, i.bytes)) = some (some (.bool false), 1, 1) := by kernel_rfl
theorem slice_loU (t e : TypeId) (hu : Try.prog.underlying t = some (.slice e)) (sz : Nat) (hs : ∀ W, (sizeOf e).run Try.prog W = .ok sz W) (R : Option Addr) (m c q : Nat) (h1 : q ≤ m) (_h2 : m ≤ c) :
    ∃ A, (∀ W, (Instr.sliceAt t (.slice R m c) (some (.int .i64 (q : Int))) none none).run Try.prog W = .ok (.slice A (m - q) (c - q)) W) ∧ (∀ W, (Instr.slice t (.slice R m c) (some (.int .i64 (q : Int))) none none).run Try.prog W = .ok (.slice A (m - q) (c - q)) W) ∧ (c ≠ q → A = R.map (·.add (q * sz))) := by
  have key : ∀ W, (Instr.slice t (.slice R m c) (some (.int .i64 (q : Int))) none none).run Try.prog W = .ok (.slice (if c = q then R else R.map (·.add (q * sz))) (m - q) (c - q)) W := fun W => by
    simp [Instr.slice, run_underlying hu, Instr.sliceBounds, Instr.sliceBound, asIntOf, hs, h1]
  refine ⟨_, fun W => ?_, key, fun hc => if_neg hc⟩
  rw [← key W]
  simp [Instr.sliceAt, run_underlying hu]
theorem slice_hiU (t e : TypeId) (hu : Try.prog.underlying t = some (.slice e)) (sz : Nat) (hs : ∀ W, (sizeOf e).run Try.prog W = .ok sz W) (R : Option Addr) (m c q : Nat) (h1 : q ≤ m) (h2 : m ≤ c) :
    (∀ W, (Instr.sliceAt t (.slice R m c) none (some (.int .i64 (q : Int))) none).run Try.prog W = .ok (.slice R q c) W) ∧ (∀ W, (Instr.slice t (.slice R m c) none (some (.int .i64 (q : Int))) none).run Try.prog W = .ok (.slice R q c) W) := by
  have hadd : ∀ a : Addr, a.add 0 = a := fun a => by cases a; simp [Addr.add]
  have key : ∀ W, (Instr.slice t (.slice R m c) none (some (.int .i64 (q : Int))) none).run Try.prog W = .ok (.slice R q c) W := fun W => by
    have hq : q ≤ c := by omega
    cases R <;> simp [Instr.slice, run_underlying hu, Instr.sliceBounds, Instr.sliceBound, asIntOf, hs, hq, hadd]
  refine ⟨fun W => ?_, key⟩
  rw [← key W]
  simp [Instr.sliceAt, run_underlying hu]
theorem size_boolU (W : World) : (sizeOf 4).run Try.prog W = .ok 1 W := by
  obtain ⟨i0, hi, hz0, hz1, hz2⟩ := info_parts info_boolU
  simp [sizeOf, typeInfo, hi, hz1]
theorem size_qU (W : World) : (sizeOf 30).run Try.prog W = .ok 4 W := by
  obtain ⟨i0, hi, hz0, hz1, hz2⟩ := info_parts info_q
  simp [sizeOf, typeInfo, hi, hz1]
/-- What long says. -/
def RetL37 (w : World) (m mr k : Nat) (e : Ending) (w' : World) : Prop := (∃ b, e = .returned (.bool b) ∧ (b = false → m ≤ 40 ∧ mr ≤ 40 ∧ k ≤ 40)) ∧ Ext w w'
theorem BoolsAt.slicedU {w : World} {A A' : Option Addr} {n c : Nat} {xs : List Bool} (h : BoolsAt w A n xs) {j : Nat} (hj : j ≤ n) (hc : n ≤ c) (hA : c ≠ j → A' = A.map (·.add (j * 1))) : BoolsAt w A' (n - j) (xs.drop j) := by
  refine ⟨by rw [List.length_drop, h.1], fun hn => ?_⟩
  obtain ⟨b, off, ha, hlt, hcc⟩ := h.2 (by omega)
  have e := hA (by omega)
  subst ha
  have hadd : (⟨b, off, none⟩ : Addr).add (j * 1) = ⟨b, off + j, none⟩ := by by_cases h0 : j = 0 <;> simp [Addr.add, h0]
  simp only [Option.map_some, hadd] at e
  exact ⟨b, off + j, e, hlt, fun i hi => by rw [getD_dropU, Nat.add_assoc]; exact hcc (j + i) (by omega)⟩
theorem QsK.slicedU {K : Nat} {w : World} {P P' : Option Addr} {n c : Nat} {ps : List Rat} (h : QsK K w P n ps) {j : Nat} (hj : j ≤ n) (hc : n ≤ c) (hA : c ≠ j → P' = P.map (·.add (j * 4))) : QsK K w P' (n - j) (ps.drop j) := by
  by_cases hn : n - j = 0
  · exact ⟨by rw [List.length_drop, h.1], fun h0 => absurd h0 (by omega)⟩
  · obtain ⟨b, off, ha, -, -⟩ := h.2 (by omega)
    have e := hA (by omega)
    subst ha
    have hadd : (⟨b, off, none⟩ : Addr).add (j * 4) = ⟨b, off + j * 4, none⟩ := by by_cases h0 : j * 4 = 0 <;> simp [Addr.add, h0]
    simp only [Option.map_some, hadd] at e
    subst e
    exact h.dropU hj
set_option maxRecDepth 100000 in
set_option maxHeartbeats 8000000 in
theorem long37_any (u : U) (A : Option Addr) (n c : Nat) (Rp : Option Addr) (m dp : Nat) (R : Option Addr) (mr dR : Nat) (P : Option Addr) (k cp : Nat) (gs : List Rat) (w : World) (hg : QsK 1048576 w P k gs) (hk : k ≤ maxLen) :
    Calls Try.prog 15 #[u.val A n c, .slice Rp m dp, .slice R mr dR, .slice P k cp] w (RetL37 w m mr k) := by
  have HG := Lib.hid hg
  clear hg
  go_enter Try.func15, Try.ntmps15
  go_upto_region 1 with (fail)
  have k0 := UBox.new (w) (w.heap.size) (by simp) u A n c 40
  have hE : Ext w ((w).alloc (.cells #[.int .i64 u.bus, .int .i64 u.mn, .slice A n c, .int .i64 u.up, .int .i64 u.down, .int .i64 u.start, .int .i64 u.idle, .int .i64 u.spin, .int .i64 u.on] 40)) := (Ext.al Ext.rfl' _)
  have hsz : ((w).alloc (.cells #[.int .i64 u.bus, .int .i64 u.mn, .slice A n c, .int .i64 u.up, .int .i64 u.down, .int .i64 u.start, .int .i64 u.idle, .int .i64 u.spin, .int .i64 u.on] 40)).heap.size = w.heap.size + 1 := by simp
  generalize (w).alloc (.cells #[.int .i64 u.bus, .int .i64 u.mn, .slice A n c, .int .i64 u.up, .int .i64 u.down, .int .i64 u.start, .int .i64 u.idle, .int .i64 u.spin, .int .i64 u.on] 40) = w1 at *
  have SZw1 := Lib.hid hsz
  clear hsz
  have Ew1 := Lib.hid hE
  clear hE
  have Ku := Lib.hid k0
  clear k0
  by_cases h1 : 20 < n
  · have h1a : decide ((20 : Int) < (n : Int)) = true := by simp; omega
    have h1b : decide (20 < n) = true := by simp; omega
    have zu := World.block_lt_of_cell? _ _ Ku.out.1
    have xu2 := Ku.out.2.2.1
    go_wp2_with fail
    go_ret
    exact ⟨⟨true, rfl, fun e => by cases e⟩, Ew1.out⟩
  have h1a : decide ((20 : Int) < (n : Int)) = false := by simp; omega
  have h1b : decide (20 < n) = false := by simp; omega
  by_cases h2 : 40 < m
  · have h2a : decide ((40 : Int) < (m : Int)) = true := by simp; omega
    have h2b : decide (40 < m) = true := by simp; omega
    have zu := World.block_lt_of_cell? _ _ Ku.out.1
    have xu2 := Ku.out.2.2.1
    go_wp2_with fail
    go_ret
    exact ⟨⟨true, rfl, fun e => by cases e⟩, Ew1.out⟩
  have h2a : decide ((40 : Int) < (m : Int)) = false := by simp; omega
  have h2b : decide (40 < m) = false := by simp; omega
  by_cases h3 : 40 < mr
  · have h3a : decide ((40 : Int) < (mr : Int)) = true := by simp; omega
    have h3b : decide (40 < mr) = true := by simp; omega
    have zu := World.block_lt_of_cell? _ _ Ku.out.1
    have xu2 := Ku.out.2.2.1
    go_wp2_with fail
    go_ret
    exact ⟨⟨true, rfl, fun e => by cases e⟩, Ew1.out⟩
  have h3a : decide ((40 : Int) < (mr : Int)) = false := by simp; omega
  have h3b : decide (40 < mr) = false := by simp; omega
  have zu := World.block_lt_of_cell? _ _ Ku.out.1
  have xu2 := Ku.out.2.2.1
  go_wp2_with fail
  clear zu xu2
  have hlr := lrows1 (c1 := cp) 22 (by omega) (HG.out.ext Ew1.out) hk
  have hE : Ext w1 (w1.alloc (.cells #[.slice P k cp] 22)) := Ext.al Ext.rfl' _
  obtain ⟨gL, hgL⟩ : ∃ g, w1.heap.size = g := ⟨_, rfl⟩
  generalize (w1.alloc (.cells #[.slice P k cp] 22)) = wl at *
  rw [hgL] at hlr ⊢
  clear hgL
  have HLR := Lib.hid hlr
  clear hlr
  have Ewl := Lib.hid hE
  clear hE
  refine (long33_any gL 1 1 _ (fun _ => k) _ wl HLR.out (by omega)).mono ?_
  rintro e w2 ⟨⟨bl, rfl, hbl⟩, hE⟩
  have Ew2 := Lib.hid hE
  clear hE
  have HBL := Lib.hid hbl
  clear hbl
  go_wp2_with fail
  go_ret
  exact ⟨⟨bl, rfl, fun e => ⟨by omega, by omega, HBL.out e 0 (by omega)⟩⟩, (Ext.trans Ew1.out (Ext.trans Ewl.out Ew2.out))⟩
end Go.Proofs.Ytfokholpgakjpaa
