/- Contracts on slices of structs with a text first: Fare. -/
import Derived.Test.YtjgajablgddkcaaDoorName
import Derived.Test.YtjgajablgddkcaaDoorOpen
import Derived.Test.YtjgajablgddkcaaDoorGroups
namespace Go.Proofs.YtjgajablgddkcaaDoor
open Go.RowKit Go.Deep
set_option linter.unusedVariables false
set_option maxRecDepth 100000

theorem infoFare : (Tryd.prog.info? 39).map (fun i => (i.zero, i.size, i.bytes)) = some (some (.agg #[.string ⟨#[]⟩, .int .i64 0, .int .i64 0, .int .i64 0]), 4, 40) := by kernel_rfl

end Go.Proofs.YtjgajablgddkcaaDoor
