/- Contracts on slices of structs with a text first: Fare. -/
import Derived.Test.YtjoomijbbiageaaDoorName
import Derived.Test.YtjoomijbbiageaaDoorOpen
import Derived.Test.YtjoomijbbiageaaDoorGroups
namespace Go.Proofs.YtjoomijbbiageaaDoor
open Go.RowKit Go.Deep
set_option linter.unusedVariables false
set_option maxRecDepth 100000

end Go.Proofs.YtjoomijbbiageaaDoor
