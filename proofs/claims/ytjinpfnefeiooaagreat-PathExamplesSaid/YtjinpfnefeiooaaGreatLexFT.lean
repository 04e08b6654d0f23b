/- A part of the proof. -/
import Derived.Test.YtjinpfnefeiooaaGreatLexFS
namespace Go.Proofs.YtjinpfnefeiooaaGreat
open Go.RowKit
section
variable {P : Program} {l : List Oper} {Q : Exit → Act → World → Prop} {V : Nat → Value → World → Prop} {a0 : Act} {w0 : World} {G sI dp dv : Nat} {late : List Nat} {S : Value → Value → World → World → Prop}
end
end Go.Proofs.YtjinpfnefeiooaaGreat
