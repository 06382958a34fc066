/-
  No cell of these rows narrows 'for every input' (looked for: loops, veiled, ifaces, maps, wideKeys, modest, calm, conditions, laid).
  DERIVED. THE GIVEN ROWS OF THIS SEAT. 11 by the template 'for every input the law returns true; each argument reads behind the call as it read before'; 0 by the template 'total and deterministic' (their statements: YtelgkgbglomcnaaTotals.lean).
  GIVEN WITH THE SEED: the statements are not yours to turn. If you find one false, say at which input.
  Laid BY PROGRAM, IN A SANDBOX (cutbox-rows.mjs): the forced cells as the released guide's own fill.sh prints them over the translation 56dfa2681ec82192… (all of the seat's roots in one cut). By AI agents, Wed Nov 11 2026. No macro, syntax, notation, axiom, sorry.
-/
import Derived.Test.YtelgkgbglomcnaaChecked
import GoSem.Claim
import GoSem.ClaimJoined
import GoSem.ClaimMapViews
import Derived.JoinedTies
import Derived.KernelRfl
namespace Go.Proofs.Ytelgkgbglomcnaa
/- THE CELL 'sum', in the pinned program and in every row, IS THE sha256 OF THE DUMP (.gsa) THAT YtelgkgbglomcnaaProg.lean LOADS. Nothing in Lean hashes anything: it is a label: what it is worth is what the hold of that sum in a sandbox is worth. -/
noncomputable def Try.pinned : Pinned := { name := "ytelgkgbglomcnaa", sum := "56dfa2681ec821921a8d1493e8de075386443c275c923ba8845760648e84d2b1", checked := Try.checked }
namespace Rows
def none {H : Type} : Left H := { results := [], args := [] }

/-- 'laws.FnExactValidRoom': WHATEVER THE INPUT: true; the input reads as it did. -/
def fnExactValidRoomSpec : ChangeSpec := { name := "fnExactValidRoom", fn := fun _ => fun
  | [d] => { results := [.lit (.bool true)], args := [d] }
  | _ => none }
def fnExactValidRoomRow : OpenClaim := { program := "ytelgkgbglomcnaa", sum := "56dfa2681ec821921a8d1493e8de075386443c275c923ba8845760648e84d2b1", func := "loop.example/g01057/laws.FnExactValidRoom", spec := "fnExactValidRoom", apart := false }
def FnExactValidRoomSaid : Prop := fnExactValidRoomRow.holds Try.pinned (OpenSpec.ofChange fnExactValidRoomSpec)

/-- ITS FALSE NEIGHBOUR: 'it returns false'. Refute it at one input. -/
def fnExactValidRoomWrong : ChangeSpec := { name := "fnExactValidRoom", fn := fun _ => fun
  | [d] => { results := [.lit (.bool false)], args := [d] }
  | _ => none }
def FnExactValidRoomWrongFalsely : Prop := fnExactValidRoomRow.holds Try.pinned (OpenSpec.ofChange fnExactValidRoomWrong)

/-- 'laws.FnExactValidBasin': WHATEVER THE INPUT: true; the input reads as it did. -/
def fnExactValidBasinSpec : ChangeSpec := { name := "fnExactValidBasin", fn := fun _ => fun
  | [d] => { results := [.lit (.bool true)], args := [d] }
  | _ => none }
def fnExactValidBasinRow : OpenClaim := { program := "ytelgkgbglomcnaa", sum := "56dfa2681ec821921a8d1493e8de075386443c275c923ba8845760648e84d2b1", func := "loop.example/g01057/laws.FnExactValidBasin", spec := "fnExactValidBasin", apart := false }
def FnExactValidBasinSaid : Prop := fnExactValidBasinRow.holds Try.pinned (OpenSpec.ofChange fnExactValidBasinSpec)

/-- ITS FALSE NEIGHBOUR: 'it returns false'. Refute it at one input. -/
def fnExactValidBasinWrong : ChangeSpec := { name := "fnExactValidBasin", fn := fun _ => fun
  | [d] => { results := [.lit (.bool false)], args := [d] }
  | _ => none }
def FnExactValidBasinWrongFalsely : Prop := fnExactValidBasinRow.holds Try.pinned (OpenSpec.ofChange fnExactValidBasinWrong)

/-- 'laws.FnExactValidArrivals': WHATEVER THE INPUT: true; the input reads as it did. -/
def fnExactValidArrivalsSpec : ChangeSpec := { name := "fnExactValidArrivals", fn := fun _ => fun
  | [d] => { results := [.lit (.bool true)], args := [d] }
  | _ => none }
def fnExactValidArrivalsRow : OpenClaim := { program := "ytelgkgbglomcnaa", sum := "56dfa2681ec821921a8d1493e8de075386443c275c923ba8845760648e84d2b1", func := "loop.example/g01057/laws.FnExactValidArrivals", spec := "fnExactValidArrivals", unfollowed := true, recurses := true, apart := false }
def FnExactValidArrivalsSaid : Prop := fnExactValidArrivalsRow.holds Try.pinned (OpenSpec.ofChange fnExactValidArrivalsSpec)

/-- ITS FALSE NEIGHBOUR: 'it returns false'. Refute it at one input. -/
def fnExactValidArrivalsWrong : ChangeSpec := { name := "fnExactValidArrivals", fn := fun _ => fun
  | [d] => { results := [.lit (.bool false)], args := [d] }
  | _ => none }
def FnExactValidArrivalsWrongFalsely : Prop := fnExactValidArrivalsRow.holds Try.pinned (OpenSpec.ofChange fnExactValidArrivalsWrong)

/-- 'laws.FnExactFillSeconds': WHATEVER THE INPUT: true; the input reads as it did. -/
def fnExactFillSecondsSpec : ChangeSpec := { name := "fnExactFillSeconds", fn := fun _ => fun
  | [d1, d2] => { results := [.lit (.bool true)], args := [d1, d2] }
  | _ => none }
def fnExactFillSecondsRow : OpenClaim := { program := "ytelgkgbglomcnaa", sum := "56dfa2681ec821921a8d1493e8de075386443c275c923ba8845760648e84d2b1", func := "loop.example/g01057/laws.FnExactFillSeconds", spec := "fnExactFillSeconds", apart := false }
def FnExactFillSecondsSaid : Prop := fnExactFillSecondsRow.holds Try.pinned (OpenSpec.ofChange fnExactFillSecondsSpec)

/-- ITS FALSE NEIGHBOUR: 'it returns false'. Refute it at one input. -/
def fnExactFillSecondsWrong : ChangeSpec := { name := "fnExactFillSeconds", fn := fun _ => fun
  | [d1, d2] => { results := [.lit (.bool false)], args := [d1, d2] }
  | _ => none }
def FnExactFillSecondsWrongFalsely : Prop := fnExactFillSecondsRow.holds Try.pinned (OpenSpec.ofChange fnExactFillSecondsWrong)

/-- 'laws.FnExactShareSeats': WHATEVER THE INPUT: true; the input reads as it did. -/
def fnExactShareSeatsSpec : ChangeSpec := { name := "fnExactShareSeats", fn := fun _ => fun
  | [d1, d2, d3] => { results := [.lit (.bool true)], args := [d1, d2, d3] }
  | _ => none }
def fnExactShareSeatsRow : OpenClaim := { program := "ytelgkgbglomcnaa", sum := "56dfa2681ec821921a8d1493e8de075386443c275c923ba8845760648e84d2b1", func := "loop.example/g01057/laws.FnExactShareSeats", spec := "fnExactShareSeats", apart := false }
def FnExactShareSeatsSaid : Prop := fnExactShareSeatsRow.holds Try.pinned (OpenSpec.ofChange fnExactShareSeatsSpec)

/-- ITS FALSE NEIGHBOUR: 'it returns false'. Refute it at one input. -/
def fnExactShareSeatsWrong : ChangeSpec := { name := "fnExactShareSeats", fn := fun _ => fun
  | [d1, d2, d3] => { results := [.lit (.bool false)], args := [d1, d2, d3] }
  | _ => none }
def FnExactShareSeatsWrongFalsely : Prop := fnExactShareSeatsRow.holds Try.pinned (OpenSpec.ofChange fnExactShareSeatsWrong)

/-- 'laws.FnExactTripsUntilDry': WHATEVER THE INPUT: true; the input reads as it did. -/
def fnExactTripsUntilDrySpec : ChangeSpec := { name := "fnExactTripsUntilDry", fn := fun _ => fun
  | [d1, d2, d3] => { results := [.lit (.bool true)], args := [d1, d2, d3] }
  | _ => none }
def fnExactTripsUntilDryRow : OpenClaim := { program := "ytelgkgbglomcnaa", sum := "56dfa2681ec821921a8d1493e8de075386443c275c923ba8845760648e84d2b1", func := "loop.example/g01057/laws.FnExactTripsUntilDry", spec := "fnExactTripsUntilDry", apart := false }
def FnExactTripsUntilDrySaid : Prop := fnExactTripsUntilDryRow.holds Try.pinned (OpenSpec.ofChange fnExactTripsUntilDrySpec)

/-- ITS FALSE NEIGHBOUR: 'it returns false'. Refute it at one input. -/
def fnExactTripsUntilDryWrong : ChangeSpec := { name := "fnExactTripsUntilDry", fn := fun _ => fun
  | [d1, d2, d3] => { results := [.lit (.bool false)], args := [d1, d2, d3] }
  | _ => none }
def FnExactTripsUntilDryWrongFalsely : Prop := fnExactTripsUntilDryRow.holds Try.pinned (OpenSpec.ofChange fnExactTripsUntilDryWrong)

/-- 'laws.FnExactPullDown': WHATEVER THE INPUT: true; the input reads as it did. -/
def fnExactPullDownSpec : ChangeSpec := { name := "fnExactPullDown", fn := fun _ => fun
  | [d1, d2, d3, d4] => { results := [.lit (.bool true)], args := [d1, d2, d3, d4] }
  | _ => none }
def fnExactPullDownRow : OpenClaim := { program := "ytelgkgbglomcnaa", sum := "56dfa2681ec821921a8d1493e8de075386443c275c923ba8845760648e84d2b1", func := "loop.example/g01057/laws.FnExactPullDown", spec := "fnExactPullDown", unfollowed := true, recurses := true, apart := false }
def FnExactPullDownSaid : Prop := fnExactPullDownRow.holds Try.pinned (OpenSpec.ofChange fnExactPullDownSpec)

/-- ITS FALSE NEIGHBOUR: 'it returns false'. Refute it at one input. -/
def fnExactPullDownWrong : ChangeSpec := { name := "fnExactPullDown", fn := fun _ => fun
  | [d1, d2, d3, d4] => { results := [.lit (.bool false)], args := [d1, d2, d3, d4] }
  | _ => none }
def FnExactPullDownWrongFalsely : Prop := fnExactPullDownRow.holds Try.pinned (OpenSpec.ofChange fnExactPullDownWrong)

/-- 'laws.FnExactGroupKilos': WHATEVER THE INPUT: true; the input reads as it did. -/
def fnExactGroupKilosSpec : ChangeSpec := { name := "fnExactGroupKilos", fn := fun _ => fun
  | [d] => { results := [.lit (.bool true)], args := [d] }
  | _ => none }
def fnExactGroupKilosRow : OpenClaim := { program := "ytelgkgbglomcnaa", sum := "56dfa2681ec821921a8d1493e8de075386443c275c923ba8845760648e84d2b1", func := "loop.example/g01057/laws.FnExactGroupKilos", spec := "fnExactGroupKilos", apart := false }
def FnExactGroupKilosSaid : Prop := fnExactGroupKilosRow.holds Try.pinned (OpenSpec.ofChange fnExactGroupKilosSpec)

/-- ITS FALSE NEIGHBOUR: 'it returns false'. Refute it at one input. -/
def fnExactGroupKilosWrong : ChangeSpec := { name := "fnExactGroupKilos", fn := fun _ => fun
  | [d] => { results := [.lit (.bool false)], args := [d] }
  | _ => none }
def FnExactGroupKilosWrongFalsely : Prop := fnExactGroupKilosRow.holds Try.pinned (OpenSpec.ofChange fnExactGroupKilosWrong)

/-- 'laws.FnExactValidTimetable': WHATEVER THE INPUT: true; the input reads as it did. -/
def fnExactValidTimetableSpec : ChangeSpec := { name := "fnExactValidTimetable", fn := fun _ => fun
  | [d] => { results := [.lit (.bool true)], args := [d] }
  | _ => none }
def fnExactValidTimetableRow : OpenClaim := { program := "ytelgkgbglomcnaa", sum := "56dfa2681ec821921a8d1493e8de075386443c275c923ba8845760648e84d2b1", func := "loop.example/g01057/laws.FnExactValidTimetable", spec := "fnExactValidTimetable", apart := false }
def FnExactValidTimetableSaid : Prop := fnExactValidTimetableRow.holds Try.pinned (OpenSpec.ofChange fnExactValidTimetableSpec)

/-- ITS FALSE NEIGHBOUR: 'it returns false'. Refute it at one input. -/
def fnExactValidTimetableWrong : ChangeSpec := { name := "fnExactValidTimetable", fn := fun _ => fun
  | [d] => { results := [.lit (.bool false)], args := [d] }
  | _ => none }
def FnExactValidTimetableWrongFalsely : Prop := fnExactValidTimetableRow.holds Try.pinned (OpenSpec.ofChange fnExactValidTimetableWrong)

/-- 'laws.FnExactDrainFor': WHATEVER THE INPUT: true; the input reads as it did. -/
def fnExactDrainForSpec : ChangeSpec := { name := "fnExactDrainFor", fn := fun _ => fun
  | [d1, d2, d3, d4] => { results := [.lit (.bool true)], args := [d1, d2, d3, d4] }
  | _ => none }
def fnExactDrainForRow : OpenClaim := { program := "ytelgkgbglomcnaa", sum := "56dfa2681ec821921a8d1493e8de075386443c275c923ba8845760648e84d2b1", func := "loop.example/g01057/laws.FnExactDrainFor", spec := "fnExactDrainFor", apart := false }
def FnExactDrainForSaid : Prop := fnExactDrainForRow.holds Try.pinned (OpenSpec.ofChange fnExactDrainForSpec)

/-- ITS FALSE NEIGHBOUR: 'it returns false'. Refute it at one input. -/
def fnExactDrainForWrong : ChangeSpec := { name := "fnExactDrainFor", fn := fun _ => fun
  | [d1, d2, d3, d4] => { results := [.lit (.bool false)], args := [d1, d2, d3, d4] }
  | _ => none }
def FnExactDrainForWrongFalsely : Prop := fnExactDrainForRow.holds Try.pinned (OpenSpec.ofChange fnExactDrainForWrong)

/-- 'laws.FnExactEvenRides': WHATEVER THE INPUT: true; the input reads as it did. -/
def fnExactEvenRidesSpec : ChangeSpec := { name := "fnExactEvenRides", fn := fun _ => fun
  | [d1, d2, d3, d4] => { results := [.lit (.bool true)], args := [d1, d2, d3, d4] }
  | _ => none }
def fnExactEvenRidesRow : OpenClaim := { program := "ytelgkgbglomcnaa", sum := "56dfa2681ec821921a8d1493e8de075386443c275c923ba8845760648e84d2b1", func := "loop.example/g01057/laws.FnExactEvenRides", spec := "fnExactEvenRides", apart := false }
def FnExactEvenRidesSaid : Prop := fnExactEvenRidesRow.holds Try.pinned (OpenSpec.ofChange fnExactEvenRidesSpec)

/-- ITS FALSE NEIGHBOUR: 'it returns false'. Refute it at one input. -/
def fnExactEvenRidesWrong : ChangeSpec := { name := "fnExactEvenRides", fn := fun _ => fun
  | [d1, d2, d3, d4] => { results := [.lit (.bool false)], args := [d1, d2, d3, d4] }
  | _ => none }
def FnExactEvenRidesWrongFalsely : Prop := fnExactEvenRidesRow.holds Try.pinned (OpenSpec.ofChange fnExactEvenRidesWrong)

/- THE SECOND FORM. 'bulk': how many values and letters a reading holds, each counted each time it is reached (what is shared counts as often as it is met; a slice's spare places count too). A statement '..UptoSaid' is the law's where the arguments, and the package variables that the reading takes, are together of bulk at most 1048576: NARROWER than '..Said'. Prove '..Said' where nothing that the law and all that it calls make is longer than what came in: it says more and counts as full. Else prove '..UptoSaid'. A law counts once. -/
mutual
def uptoBulk {H : Type} : DataW H → Nat
  | .lit (.string bytes) => bytes.length + 1
  | .lit _ => 1
  | .nil => 1
  | .ptr d => uptoBulk d + 1
  | .slice elems spare => uptoBulkAll elems + uptoBulkAll spare + 1
  | .agg parts => uptoBulkAll parts + 1
  | .iface _ d => uptoBulk d + 1
  | .map entries => uptoBulkEntries entries + 1
  | .held _ => 1
def uptoBulkAll {H : Type} : List (DataW H) → Nat
  | [] => 0
  | d :: r => uptoBulk d + uptoBulkAll r
def uptoBulkEntries {H : Type} : List (Lit × DataW H) → Nat
  | [] => 0
  | x :: r => uptoBulkEntry x + uptoBulkEntries r
def uptoBulkEntry {H : Type} : Lit × DataW H → Nat
  | (.string bytes, d) => bytes.length + uptoBulk d + 1
  | (_, d) => uptoBulk d + 1
 end
def uptoSmall : (H : Type) → List (DataW H) → Bool := fun _ ds => decide (uptoBulkAll ds ≤ 1048576)
def OpenSpec.upto (s : _root_.Go.ChangeSpec) : _root_.Go.OpenSpec := { _root_.Go.OpenSpec.ofChange s with cond := some uptoSmall }

/-- 'laws.FnExactValidRoom', WHERE WHAT IT READS IS OF BULK AT MOST 1048576: true; the input reads as it did. -/
def fnExactValidRoomUptoRow : OpenClaim := { program := "ytelgkgbglomcnaa", sum := "56dfa2681ec821921a8d1493e8de075386443c275c923ba8845760648e84d2b1", func := "loop.example/g01057/laws.FnExactValidRoom", spec := "fnExactValidRoom", apart := false, narrowed := true }
def FnExactValidRoomUptoSaid : Prop := fnExactValidRoomUptoRow.holds Try.pinned (OpenSpec.upto fnExactValidRoomSpec)

/-- 'laws.FnExactValidBasin', WHERE WHAT IT READS IS OF BULK AT MOST 1048576: true; the input reads as it did. -/
def fnExactValidBasinUptoRow : OpenClaim := { program := "ytelgkgbglomcnaa", sum := "56dfa2681ec821921a8d1493e8de075386443c275c923ba8845760648e84d2b1", func := "loop.example/g01057/laws.FnExactValidBasin", spec := "fnExactValidBasin", apart := false, narrowed := true }
def FnExactValidBasinUptoSaid : Prop := fnExactValidBasinUptoRow.holds Try.pinned (OpenSpec.upto fnExactValidBasinSpec)

/-- 'laws.FnExactValidArrivals', WHERE WHAT IT READS IS OF BULK AT MOST 1048576: true; the input reads as it did. -/
def fnExactValidArrivalsUptoRow : OpenClaim := { program := "ytelgkgbglomcnaa", sum := "56dfa2681ec821921a8d1493e8de075386443c275c923ba8845760648e84d2b1", func := "loop.example/g01057/laws.FnExactValidArrivals", spec := "fnExactValidArrivals", unfollowed := true, recurses := true, apart := false, narrowed := true }
def FnExactValidArrivalsUptoSaid : Prop := fnExactValidArrivalsUptoRow.holds Try.pinned (OpenSpec.upto fnExactValidArrivalsSpec)

/-- 'laws.FnExactFillSeconds', WHERE WHAT IT READS IS OF BULK AT MOST 1048576: true; the input reads as it did. -/
def fnExactFillSecondsUptoRow : OpenClaim := { program := "ytelgkgbglomcnaa", sum := "56dfa2681ec821921a8d1493e8de075386443c275c923ba8845760648e84d2b1", func := "loop.example/g01057/laws.FnExactFillSeconds", spec := "fnExactFillSeconds", apart := false, narrowed := true }
def FnExactFillSecondsUptoSaid : Prop := fnExactFillSecondsUptoRow.holds Try.pinned (OpenSpec.upto fnExactFillSecondsSpec)

/-- 'laws.FnExactShareSeats', WHERE WHAT IT READS IS OF BULK AT MOST 1048576: true; the input reads as it did. -/
def fnExactShareSeatsUptoRow : OpenClaim := { program := "ytelgkgbglomcnaa", sum := "56dfa2681ec821921a8d1493e8de075386443c275c923ba8845760648e84d2b1", func := "loop.example/g01057/laws.FnExactShareSeats", spec := "fnExactShareSeats", apart := false, narrowed := true }
def FnExactShareSeatsUptoSaid : Prop := fnExactShareSeatsUptoRow.holds Try.pinned (OpenSpec.upto fnExactShareSeatsSpec)

/-- 'laws.FnExactTripsUntilDry', WHERE WHAT IT READS IS OF BULK AT MOST 1048576: true; the input reads as it did. -/
def fnExactTripsUntilDryUptoRow : OpenClaim := { program := "ytelgkgbglomcnaa", sum := "56dfa2681ec821921a8d1493e8de075386443c275c923ba8845760648e84d2b1", func := "loop.example/g01057/laws.FnExactTripsUntilDry", spec := "fnExactTripsUntilDry", apart := false, narrowed := true }
def FnExactTripsUntilDryUptoSaid : Prop := fnExactTripsUntilDryUptoRow.holds Try.pinned (OpenSpec.upto fnExactTripsUntilDrySpec)

/-- 'laws.FnExactPullDown', WHERE WHAT IT READS IS OF BULK AT MOST 1048576: true; the input reads as it did. -/
def fnExactPullDownUptoRow : OpenClaim := { program := "ytelgkgbglomcnaa", sum := "56dfa2681ec821921a8d1493e8de075386443c275c923ba8845760648e84d2b1", func := "loop.example/g01057/laws.FnExactPullDown", spec := "fnExactPullDown", unfollowed := true, recurses := true, apart := false, narrowed := true }
def FnExactPullDownUptoSaid : Prop := fnExactPullDownUptoRow.holds Try.pinned (OpenSpec.upto fnExactPullDownSpec)

/-- 'laws.FnExactGroupKilos', WHERE WHAT IT READS IS OF BULK AT MOST 1048576: true; the input reads as it did. -/
def fnExactGroupKilosUptoRow : OpenClaim := { program := "ytelgkgbglomcnaa", sum := "56dfa2681ec821921a8d1493e8de075386443c275c923ba8845760648e84d2b1", func := "loop.example/g01057/laws.FnExactGroupKilos", spec := "fnExactGroupKilos", apart := false, narrowed := true }
def FnExactGroupKilosUptoSaid : Prop := fnExactGroupKilosUptoRow.holds Try.pinned (OpenSpec.upto fnExactGroupKilosSpec)

/-- 'laws.FnExactValidTimetable', WHERE WHAT IT READS IS OF BULK AT MOST 1048576: true; the input reads as it did. -/
def fnExactValidTimetableUptoRow : OpenClaim := { program := "ytelgkgbglomcnaa", sum := "56dfa2681ec821921a8d1493e8de075386443c275c923ba8845760648e84d2b1", func := "loop.example/g01057/laws.FnExactValidTimetable", spec := "fnExactValidTimetable", apart := false, narrowed := true }
def FnExactValidTimetableUptoSaid : Prop := fnExactValidTimetableUptoRow.holds Try.pinned (OpenSpec.upto fnExactValidTimetableSpec)

/-- 'laws.FnExactDrainFor', WHERE WHAT IT READS IS OF BULK AT MOST 1048576: true; the input reads as it did. -/
def fnExactDrainForUptoRow : OpenClaim := { program := "ytelgkgbglomcnaa", sum := "56dfa2681ec821921a8d1493e8de075386443c275c923ba8845760648e84d2b1", func := "loop.example/g01057/laws.FnExactDrainFor", spec := "fnExactDrainFor", apart := false, narrowed := true }
def FnExactDrainForUptoSaid : Prop := fnExactDrainForUptoRow.holds Try.pinned (OpenSpec.upto fnExactDrainForSpec)

/-- 'laws.FnExactEvenRides', WHERE WHAT IT READS IS OF BULK AT MOST 1048576: true; the input reads as it did. -/
def fnExactEvenRidesUptoRow : OpenClaim := { program := "ytelgkgbglomcnaa", sum := "56dfa2681ec821921a8d1493e8de075386443c275c923ba8845760648e84d2b1", func := "loop.example/g01057/laws.FnExactEvenRides", spec := "fnExactEvenRides", apart := false, narrowed := true }
def FnExactEvenRidesUptoSaid : Prop := fnExactEvenRidesUptoRow.holds Try.pinned (OpenSpec.upto fnExactEvenRidesSpec)

end Rows
end Go.Proofs.Ytelgkgbglomcnaa
