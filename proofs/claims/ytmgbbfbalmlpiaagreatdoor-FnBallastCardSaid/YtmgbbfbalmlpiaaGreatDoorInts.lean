/- Contracts of the laws' helpers on []int64. -/
import Derived.Test.YtmgbbfbalmlpiaaGreatDoorCore
import Derived.Test.YtmgbbfbalmlpiaaGreatDoorPlain
import Derived.Deep.QuietTactic
import Derived.BigQuiet
namespace Go.Proofs.YtmgbbfbalmlpiaaGreatDoor
open Go.RowKit Go.Deep

theorem infoInt : (Tryz.prog.info? 2).map (fun i => (i.zero, i.size, i.bytes)) = some (some (.int .i64 0), 1, 8) := by kernel_rfl

/-- The integers z 0, z 1 .. as cells. -/
def ic (z : Nat → Int) : Nat → Value := fun j => .int .i64 (z j)
/-- A row that is filled up to k with f, and holds d behind that. -/
def upTo (k : Nat) (f : Nat → Value) (d : Value) : Nat → Value := fun j => if j < k then f j else d

end Go.Proofs.YtmgbbfbalmlpiaaGreatDoor
