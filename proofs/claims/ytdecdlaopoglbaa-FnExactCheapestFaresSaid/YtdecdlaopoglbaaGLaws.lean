/- The walks of the laws themselves, over any answers of the two functions that they compare. -/
import Derived.Test.YtdecdlaopoglbaaGroups
import Derived.Test.YtdecdlaopoglbaaFares
import Derived.Test.YtdecdlaopoglbaaInts
import Derived.Deep.DeepMust
import Derived.Deep.RegionHeld3
import Derived.IntWalk
namespace Go.Proofs.Ytdecdlaopoglbaa
open Go.RowKit Go.Deep
set_option maxRecDepth 100000

end Go.Proofs.Ytdecdlaopoglbaa
