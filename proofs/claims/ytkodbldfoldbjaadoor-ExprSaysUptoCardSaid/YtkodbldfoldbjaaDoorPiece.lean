/- Pieces of a function's code: a block, a region, a condition, what stands from a condition on. -/
import Derived.Test.YtkodbldfoldbjaaDoorLib
set_option linter.unusedSimpArgs false
set_option linter.unusedVariables false
namespace Go.Proofs.YtkodbldfoldbjaaDoor
open Go.RowKit
def regOf (n : Nat) : Code → Option Code
  | .region k c d => if k = n then some (.region k c d) else none
  | .block _ c => regOf n c
  | .seq a b => match regOf n a with
    | some c => some c
    | none => regOf n b
  | .loop c => regOf n c
  | .scope c => regOf n c
  | .cond _ a b => match regOf n a with
    | some c => some c
    | none => regOf n b
  | _ => none
end Go.Proofs.YtkodbldfoldbjaaDoor
