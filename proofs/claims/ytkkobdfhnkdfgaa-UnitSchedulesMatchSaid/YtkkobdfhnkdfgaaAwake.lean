/- Contracts of the laws' helpers: Long, may, ex, awake. -/
import Derived.Test.YtkkobdfhnkdfgaaSame
namespace Go.Proofs.Ytkkobdfhnkdfgaa
open Go.RowKit

/-- Larger than the statements consider. -/
def longB (n m : Nat) : Bool := decide (100 < n) || decide (100 < m)
set_option maxHeartbeats 400000 in
theorem long_any (u : U) (A : Option Addr) (n c : Nat) (R : Option Addr) (m d : Nat) (w : World) :
    Calls Try.prog 10 #[u.val A n c, .slice R m d] w fun e w' => e = .returned (.bool (longB n m)) ∧ Ext w w' := by
  by_cases h1 : 100 < n
  · have HX : Hid (longB n m = true) := by simp [Hid, longB, h1]
    go_enter Try.func10, Try.ntmps10
    go_wp2_with fail
    go_ret
    exact ⟨ret_bool HX.out.symm, Ext.new1 _ _⟩
  · by_cases h2 : 100 < m
    · have HX : Hid (longB n m = true) := by simp [Hid, longB, h2]
      go_enter Try.func10, Try.ntmps10
      go_wp2_with fail
      go_ret
      exact ⟨ret_bool (by rw [HX.out]; simp; omega), Ext.new1 _ _⟩
    · have HX : Hid (longB n m = false) := by simp [Hid, longB, h1, h2]
      go_enter Try.func10, Try.ntmps10
      go_wp2_with fail
      go_ret
      exact ⟨ret_bool (by rw [HX.out]; simp; omega), Ext.new1 _ _⟩

set_option maxHeartbeats 400000 in
theorem may_any (u : U) (A : Option Addr) (n c : Nat) (w : World) (hs : StepsAt w A n u.steps) (hn : n ≤ maxLen) :
    Calls Try.prog 15 #[u.val A n c] w fun e w' => e = .returned (.bool u.ok) ∧ Ext w w' := by
  go_enter Try.func15, Try.ntmps15
  go_wp2_with fail
  refine (ucheck_any u 6 A n c _ (hs.below ((Below.refl _ _).alloc (Nat.le_refl _) _)) hn).mono ?_
  rintro e w1 ⟨rfl, hb1⟩
  go_wp2_with fail
  go_ret
  exact ⟨rfl, Ext.new hb1⟩

/-- The chapter's unit. -/
def exU : U := { bus := 0, mn := 2, up := 2, down := 2, start := 5, idle := 3, spin := 0, on := -1, steps := [(5, 1), (4, 3)] }
set_option maxHeartbeats 400000 in
theorem ex_any (w : World) :
    Calls Try.prog 23 #[] w fun e w' => e = .returned (exU.val (some ⟨w.heap.size + 1, 0, none⟩) 2 2) ∧ StepsAt w' (some ⟨w.heap.size + 1, 0, none⟩) 2 exU.steps ∧ Ext w w' := by
  go_enter Try.func23, Try.ntmps23
  go_wp2_with fail
  refine bodyPost_ret (v := exU.val (some ⟨w.heap.size + 1, 0, none⟩) 2 2) (by simp [results, Try.results23, go_sem, exU]) rfl ⟨rfl, ⟨rfl, fun _ => ⟨w.heap.size + 1, 0, rfl, by simp, fun i hi => ?_⟩⟩, ?_⟩
  · have h : i = 0 ∨ i = 1 := by omega
    rcases h with rfl | rfl <;> simp [go_sem, exU]
  · exact Ext.al (Ext.new1 _ _) _

end Go.Proofs.Ytkkobdfhnkdfgaa
