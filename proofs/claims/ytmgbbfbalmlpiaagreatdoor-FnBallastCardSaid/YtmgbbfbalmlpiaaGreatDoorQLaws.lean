/- The walks of the laws themselves, over any answers of the two functions that they compare. -/
import Derived.Test.YtmgbbfbalmlpiaaGreatDoorInts
import Derived.Test.YtmgbbfbalmlpiaaGreatDoorAggs
import Derived.Test.YtmgbbfbalmlpiaaGreatDoorBallast
import Derived.Deep.DeepMust
import Derived.Deep.RegionHeld3
import Derived.IntWalk
namespace Go.Proofs.YtmgbbfbalmlpiaaGreatDoor
open Go.RowKit Go.Deep

end Go.Proofs.YtmgbbfbalmlpiaaGreatDoor
