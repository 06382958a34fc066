/- A list of numbers read off its text: the specification's walk. -/
import Derived.Test.YtmgbbfbalmlpiaaGreatDoorRlS
namespace Go.Proofs.YtmgbbfbalmlpiaaGreatDoor
open Go.RowKit Go.Deep
set_option linter.unusedVariables false
set_option maxRecDepth 100000

end Go.Proofs.YtmgbbfbalmlpiaaGreatDoor
