/- Errors as values; 'same' of package law. -/
import Derived.Test.YtllibbdgnjcchacRows
import Derived.Test.YtllibbdgnjcchacLib
namespace Go.Proofs.Ytllibbdgnjcchac
open Go.RowKit
def errV (n : Int) : Value := if n = 0 then .nilIface else .iface 34 (.int .i64 n)
theorem errV_zero : errV 0 = .nilIface := rfl
theorem errV_pos {n : Int} (h : n ≠ 0) : errV n = .iface 34 (.int .i64 n) := if_neg h
end Go.Proofs.Ytllibbdgnjcchac
