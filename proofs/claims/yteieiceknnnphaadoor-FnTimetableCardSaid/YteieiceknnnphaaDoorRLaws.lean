/- The walks of the laws themselves, over any answers of the two functions that they compare. -/
import Derived.Test.YteieiceknnnphaaDoorRides
import Derived.Test.YteieiceknnnphaaDoorAggs
import Derived.Test.YteieiceknnnphaaDoorNext
import Derived.Deep.DeepMust
import Derived.Deep.RegionHeld3
import Derived.IntWalk
namespace Go.Proofs.YteieiceknnnphaaDoor
open Go.RowKit Go.Deep
set_option maxRecDepth 100000

end Go.Proofs.YteieiceknnnphaaDoor
