/- A part of the proof. -/
import Derived.Test.YtjinpfnefeiooaaGreatLexes
import Derived.Test.YtjinpfnefeiooaaGreatLaw27
namespace Go.Proofs.YtjinpfnefeiooaaGreat
open Go.RowKit

inductive VK where
 | any
 | is (v : Value)
 | q (r : Rat)
 | ints (zs : List Int)
 | qs (ps : List Rat)
 | bools (bs : List Bool)
def VK.holds : VK → Value → World → Prop
 | .any, _, _ => True
 | .is v0, v, _ => v = v0
 | .q r, v, w => ∃ s A n c t B m d, v = .agg #[.bool s, .slice A n c, .bool t, .slice B m d] ∧ QCan w 0 s A n c t B m d r
 | .ints zs, v, w => ∃ A c, v = .slice A zs.length c ∧ IntsAt w A zs.length zs
 | .qs ps, v, w => ∃ A c, v = .slice A ps.length c ∧ QsAt w A ps.length ps
 | .bools bs, v, w => ∃ A c, v = .slice A bs.length c ∧ BoolsAt w A bs.length bs
theorem VK.mono {k : VK} {v : Value} {w w' : World} (h : k.holds v w) (hE : Ext w w') : k.holds v w' := by
 cases k with
 | any => trivial
 | is v0 => exact h
 | q r => obtain ⟨s, A, n, c, t, B, m, d, h1, h2⟩ := h; exact ⟨s, A, n, c, t, B, m, d, h1, h2.ext hE⟩
 | ints zs => obtain ⟨A, c, h1, h2⟩ := h; exact ⟨A, c, h1, h2.below hE⟩
 | qs ps => obtain ⟨A, c, h1, h2⟩ := h; exact ⟨A, c, h1, h2.ext hE⟩
 | bools bs => obtain ⟨A, c, h1, h2⟩ := h; exact ⟨A, c, h1, h2.below hE⟩
theorem holds_q {w : World} {B0 : Nat} {s : Bool} {A : Option Addr} {n c : Nat} {t : Bool} {B : Option Addr} {m d : Nat} {r : Rat} (h : QCan w B0 s A n c t B m d r) : (VK.q r).holds (.agg #[.bool s, .slice A n c, .bool t, .slice B m d]) w := ⟨s, A, n, c, t, B, m, d, rfl, h.base (Nat.zero_le _)⟩
end Go.Proofs.YtjinpfnefeiooaaGreat
