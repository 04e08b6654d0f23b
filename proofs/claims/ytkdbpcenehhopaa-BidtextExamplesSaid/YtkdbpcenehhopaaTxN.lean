/- Contracts of nettext's list, kind, line. Printed by gen_txn.py. -/
import Derived.Test.YtkdbpcenehhopaaTxL
namespace Go.Proofs.Ytkdbpcenehhopaa
open Go.RowKit
theorem psIs_succ (l : Bs) : ∀ (k : Nat) (p : PS), psIs l (k + 1) p = psI l (psIs l k p)
  | 0, _ => rfl
  | k + 1, p => psIs_succ l k (psI l p)
theorem psVs_get (l : Bs) : ∀ (n k : Nat) (p : PS), k < n → (psVs l n p).getD k 0 = psV l (psIs l k p)
  | 0, _, _, h => by omega
  | n + 1, 0, p, _ => rfl
  | n + 1, k + 1, p, h => by
    have := psVs_get l n k (psI l p) (by omega)
    simpa [psVs, psIs] using this
theorem info_i64 : (Try.prog.info? 2).map (fun i => (i.zero, i.size, i.bytes)) = some (some (.int .i64 0), 1, 8) := by kernel_rfl
def kindN (t : Bs) : Int := if t = [112, 108, 97, 110] then 1 else if t = [108, 111, 115, 115] then 2 else if t = [116, 114, 105, 112] then 3 else 0
def psK (l : Bs) (p : PS) : PS := if (psE l p 3).e ≠ 0 then psE l p 3 else if kindN (psT l p 3).text = 0 then ⟨(psE l p 3).k, 3⟩ else psE l p 3
def psKV (l : Bs) (p : PS) : Int := if (psE l p 3).e ≠ 0 then 0 else kindN (psT l p 3).text
def lineP (l : Bs) (p : PS) : PS := psE l (psIs l 4 (psW l (psE l p 1) [108, 105, 110, 101])) 2
def lineV (l : Bs) (p : PS) : List Int := psVs l 4 (psW l (psE l p 1) [108, 105, 110, 101])
end Go.Proofs.Ytkdbpcenehhopaa
