/- A list of numbers read off its text: the specification's walk. -/
import Derived.Test.YtjmklkhdemolmaaGreatDoorRlS
namespace Go.Proofs.YtjmklkhdemolmaaGreatDoor
open Go.RowKit Go.Deep
set_option linter.unusedVariables false
set_option maxRecDepth 100000

end Go.Proofs.YtjmklkhdemolmaaGreatDoor
