/- Contracts on slices of structs with a text first: Fare. -/
import Derived.Test.YtelgkgbglomcnaaName
import Derived.Test.YtelgkgbglomcnaaOpen
import Derived.Test.YtelgkgbglomcnaaGroups
namespace Go.Proofs.Ytelgkgbglomcnaa
open Go.RowKit Go.Deep
set_option linter.unusedVariables false
set_option maxRecDepth 100000

end Go.Proofs.Ytelgkgbglomcnaa
