/- The library's searches over []int64, at whatever function value that answers by the element. -/
import Derived.Test.YteieiceknnnphaaDoorBase
import Derived.Test.YteieiceknnnphaaDoorInts
import Derived.Test.YteieiceknnnphaaDoorOpen
namespace Go.Proofs.YteieiceknnnphaaDoor
open Go.RowKit Go.Deep

/-- A function value that answers p at the elements el 0 .. el (n - 1), and turns nothing old. -/
def Answers (W : World) (g : FuncId) (caps : Array Value) (n : Nat) (el : Nat → Value) (p : Nat → Bool) : Prop :=
  (∀ args w, (callFunc g args).run Tryd.prog w = .ok (.enter g args) w) ∧
  ∀ i, i < n → ∀ w, Below W.heap.size W w → Calls Tryd.prog g (#[el i] ++ caps) w fun e w' => e = .returned (.bool (p i)) ∧ Below w.heap.size w w'

end Go.Proofs.YteieiceknnnphaaDoor
