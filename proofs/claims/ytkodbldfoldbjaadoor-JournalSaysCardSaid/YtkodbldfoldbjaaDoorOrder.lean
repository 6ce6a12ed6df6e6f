/- Package order: Rises; slices.Clone at pairs; the reference Sorted. -/
import Derived.Test.YtkodbldfoldbjaaDoorSort
import Derived.Test.YtkodbldfoldbjaaDoorPairs
import Derived.Test.YtkodbldfoldbjaaDoorApp
set_option linter.unusedSimpArgs false
set_option linter.unusedVariables false
namespace Go.Proofs.YtkodbldfoldbjaaDoor
open Go.RowKit

theorem infoPr : (Tryd.prog.info? 47).map (fun i => (i.zero, i.size, i.bytes)) = some (some (.agg #[.string ⟨#[]⟩, .int .i64 0]), 2, 24) := by kernel_rfl
end Go.Proofs.YtkodbldfoldbjaaDoor
