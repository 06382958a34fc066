/-
  No cell of these rows narrows 'for every input' (looked for: loops, veiled, ifaces, maps, wideKeys, modest, calm, conditions, laid).
  DERIVED. THE GIVEN ROWS OF THIS SEAT. 10 by the template 'for every input the law returns true; each argument reads behind the call as it read before'; 0 by the template 'total and deterministic' (their statements: YtobpeiimiglknaaTotals.lean).
  GIVEN WITH THE SEED: the statements are not yours to turn. If you find one false, say at which input.
  Laid BY PROGRAM, IN A SANDBOX (cutbox-rows.mjs): the forced cells as the released guide's own fill.sh prints them over the translation 5a623c117eecc03c… (all of the seat's roots in one cut). By AI agents, Wed Nov 11 2026. No macro, syntax, notation, axiom, sorry.
-/
import Derived.Test.YtobpeiimiglknaaChecked
import GoSem.Claim
import GoSem.ClaimJoined
import GoSem.ClaimMapViews
import Derived.JoinedTies
import Derived.KernelRfl
namespace Go.Proofs.Ytobpeiimiglknaa
/- THE CELL 'sum', in the pinned program and in every row, IS THE sha256 OF THE DUMP (.gsa) THAT YtobpeiimiglknaaProg.lean LOADS. Nothing in Lean hashes anything: it is a label: what it is worth is what the hold of that sum in a sandbox is worth. -/
noncomputable def Try.pinned : Pinned := { name := "ytobpeiimiglknaa", sum := "5a623c117eecc03cae68e0bed4ff470d3c2bc63133c43464cdcbdb981d70f2d9", checked := Try.checked }
namespace Rows
def none {H : Type} : Left H := { results := [], args := [] }

/-- 'laws.FnExactSmoothArrivals': WHATEVER THE INPUT: true; the input reads as it did. -/
def fnExactSmoothArrivalsSpec : ChangeSpec := { name := "fnExactSmoothArrivals", fn := fun _ => fun
  | [d1, d2] => { results := [.lit (.bool true)], args := [d1, d2] }
  | _ => none }
def fnExactSmoothArrivalsRow : OpenClaim := { program := "ytobpeiimiglknaa", sum := "5a623c117eecc03cae68e0bed4ff470d3c2bc63133c43464cdcbdb981d70f2d9", func := "loop.example/g01057/laws.FnExactSmoothArrivals", spec := "fnExactSmoothArrivals", unfollowed := true, recurses := true, apart := false }
def FnExactSmoothArrivalsSaid : Prop := fnExactSmoothArrivalsRow.holds Try.pinned (OpenSpec.ofChange fnExactSmoothArrivalsSpec)

/-- ITS FALSE NEIGHBOUR: 'it returns false'. Refute it at one input. -/
def fnExactSmoothArrivalsWrong : ChangeSpec := { name := "fnExactSmoothArrivals", fn := fun _ => fun
  | [d1, d2] => { results := [.lit (.bool false)], args := [d1, d2] }
  | _ => none }
def FnExactSmoothArrivalsWrongFalsely : Prop := fnExactSmoothArrivalsRow.holds Try.pinned (OpenSpec.ofChange fnExactSmoothArrivalsWrong)

/-- 'laws.FnExactQueuesOf': WHATEVER THE INPUT: true; the input reads as it did. -/
def fnExactQueuesOfSpec : ChangeSpec := { name := "fnExactQueuesOf", fn := fun _ => fun
  | [d1, d2, d3] => { results := [.lit (.bool true)], args := [d1, d2, d3] }
  | _ => none }
def fnExactQueuesOfRow : OpenClaim := { program := "ytobpeiimiglknaa", sum := "5a623c117eecc03cae68e0bed4ff470d3c2bc63133c43464cdcbdb981d70f2d9", func := "loop.example/g01057/laws.FnExactQueuesOf", spec := "fnExactQueuesOf", unfollowed := true, recurses := true, apart := false }
def FnExactQueuesOfSaid : Prop := fnExactQueuesOfRow.holds Try.pinned (OpenSpec.ofChange fnExactQueuesOfSpec)

/-- ITS FALSE NEIGHBOUR: 'it returns false'. Refute it at one input. -/
def fnExactQueuesOfWrong : ChangeSpec := { name := "fnExactQueuesOf", fn := fun _ => fun
  | [d1, d2, d3] => { results := [.lit (.bool false)], args := [d1, d2, d3] }
  | _ => none }
def FnExactQueuesOfWrongFalsely : Prop := fnExactQueuesOfRow.holds Try.pinned (OpenSpec.ofChange fnExactQueuesOfWrong)

/-- 'laws.FnExactRidesToClear': WHATEVER THE INPUT: true; the input reads as it did. -/
def fnExactRidesToClearSpec : ChangeSpec := { name := "fnExactRidesToClear", fn := fun _ => fun
  | [d1, d2, d3] => { results := [.lit (.bool true)], args := [d1, d2, d3] }
  | _ => none }
def fnExactRidesToClearRow : OpenClaim := { program := "ytobpeiimiglknaa", sum := "5a623c117eecc03cae68e0bed4ff470d3c2bc63133c43464cdcbdb981d70f2d9", func := "loop.example/g01057/laws.FnExactRidesToClear", spec := "fnExactRidesToClear", unfollowed := true, recurses := true, apart := false }
def FnExactRidesToClearSaid : Prop := fnExactRidesToClearRow.holds Try.pinned (OpenSpec.ofChange fnExactRidesToClearSpec)

/-- ITS FALSE NEIGHBOUR: 'it returns false'. Refute it at one input. -/
def fnExactRidesToClearWrong : ChangeSpec := { name := "fnExactRidesToClear", fn := fun _ => fun
  | [d1, d2, d3] => { results := [.lit (.bool false)], args := [d1, d2, d3] }
  | _ => none }
def FnExactRidesToClearWrongFalsely : Prop := fnExactRidesToClearRow.holds Try.pinned (OpenSpec.ofChange fnExactRidesToClearWrong)

/-- 'laws.FnExactWaitOfPerson': WHATEVER THE INPUT: true; the input reads as it did. -/
def fnExactWaitOfPersonSpec : ChangeSpec := { name := "fnExactWaitOfPerson", fn := fun _ => fun
  | [d1, d2, d3, d4] => { results := [.lit (.bool true)], args := [d1, d2, d3, d4] }
  | _ => none }
def fnExactWaitOfPersonRow : OpenClaim := { program := "ytobpeiimiglknaa", sum := "5a623c117eecc03cae68e0bed4ff470d3c2bc63133c43464cdcbdb981d70f2d9", func := "loop.example/g01057/laws.FnExactWaitOfPerson", spec := "fnExactWaitOfPerson", unfollowed := true, recurses := true, apart := false }
def FnExactWaitOfPersonSaid : Prop := fnExactWaitOfPersonRow.holds Try.pinned (OpenSpec.ofChange fnExactWaitOfPersonSpec)

/-- ITS FALSE NEIGHBOUR: 'it returns false'. Refute it at one input. -/
def fnExactWaitOfPersonWrong : ChangeSpec := { name := "fnExactWaitOfPerson", fn := fun _ => fun
  | [d1, d2, d3, d4] => { results := [.lit (.bool false)], args := [d1, d2, d3, d4] }
  | _ => none }
def FnExactWaitOfPersonWrongFalsely : Prop := fnExactWaitOfPersonRow.holds Try.pinned (OpenSpec.ofChange fnExactWaitOfPersonWrong)

/-- 'laws.FnExactExtraRide': WHATEVER THE INPUT: true; the input reads as it did. -/
def fnExactExtraRideSpec : ChangeSpec := { name := "fnExactExtraRide", fn := fun _ => fun
  | [d1, d2, d3] => { results := [.lit (.bool true)], args := [d1, d2, d3] }
  | _ => none }
def fnExactExtraRideRow : OpenClaim := { program := "ytobpeiimiglknaa", sum := "5a623c117eecc03cae68e0bed4ff470d3c2bc63133c43464cdcbdb981d70f2d9", func := "loop.example/g01057/laws.FnExactExtraRide", spec := "fnExactExtraRide", unfollowed := true, recurses := true, apart := false }
def FnExactExtraRideSaid : Prop := fnExactExtraRideRow.holds Try.pinned (OpenSpec.ofChange fnExactExtraRideSpec)

/-- ITS FALSE NEIGHBOUR: 'it returns false'. Refute it at one input. -/
def fnExactExtraRideWrong : ChangeSpec := { name := "fnExactExtraRide", fn := fun _ => fun
  | [d1, d2, d3] => { results := [.lit (.bool false)], args := [d1, d2, d3] }
  | _ => none }
def FnExactExtraRideWrongFalsely : Prop := fnExactExtraRideRow.holds Try.pinned (OpenSpec.ofChange fnExactExtraRideWrong)

/-- 'laws.FnExactLeastSeats': WHATEVER THE INPUT: true; the input reads as it did. -/
def fnExactLeastSeatsSpec : ChangeSpec := { name := "fnExactLeastSeats", fn := fun _ => fun
  | [d1, d2, d3] => { results := [.lit (.bool true)], args := [d1, d2, d3] }
  | _ => none }
def fnExactLeastSeatsRow : OpenClaim := { program := "ytobpeiimiglknaa", sum := "5a623c117eecc03cae68e0bed4ff470d3c2bc63133c43464cdcbdb981d70f2d9", func := "loop.example/g01057/laws.FnExactLeastSeats", spec := "fnExactLeastSeats", unfollowed := true, recurses := true, apart := false }
def FnExactLeastSeatsSaid : Prop := fnExactLeastSeatsRow.holds Try.pinned (OpenSpec.ofChange fnExactLeastSeatsSpec)

/-- ITS FALSE NEIGHBOUR: 'it returns false'. Refute it at one input. -/
def fnExactLeastSeatsWrong : ChangeSpec := { name := "fnExactLeastSeats", fn := fun _ => fun
  | [d1, d2, d3] => { results := [.lit (.bool false)], args := [d1, d2, d3] }
  | _ => none }
def FnExactLeastSeatsWrongFalsely : Prop := fnExactLeastSeatsRow.holds Try.pinned (OpenSpec.ofChange fnExactLeastSeatsWrong)

/-- 'laws.FnExactGapFor': WHATEVER THE INPUT: true; the input reads as it did. -/
def fnExactGapForSpec : ChangeSpec := { name := "fnExactGapFor", fn := fun _ => fun
  | [d1, d2] => { results := [.lit (.bool true)], args := [d1, d2] }
  | _ => none }
def fnExactGapForRow : OpenClaim := { program := "ytobpeiimiglknaa", sum := "5a623c117eecc03cae68e0bed4ff470d3c2bc63133c43464cdcbdb981d70f2d9", func := "loop.example/g01057/laws.FnExactGapFor", spec := "fnExactGapFor", unfollowed := true, recurses := true, apart := false }
def FnExactGapForSaid : Prop := fnExactGapForRow.holds Try.pinned (OpenSpec.ofChange fnExactGapForSpec)

/-- ITS FALSE NEIGHBOUR: 'it returns false'. Refute it at one input. -/
def fnExactGapForWrong : ChangeSpec := { name := "fnExactGapFor", fn := fun _ => fun
  | [d1, d2] => { results := [.lit (.bool false)], args := [d1, d2] }
  | _ => none }
def FnExactGapForWrongFalsely : Prop := fnExactGapForRow.holds Try.pinned (OpenSpec.ofChange fnExactGapForWrong)

/-- 'laws.FnExactWaterFor': WHATEVER THE INPUT: true; the input reads as it did. -/
def fnExactWaterForSpec : ChangeSpec := { name := "fnExactWaterFor", fn := fun _ => fun
  | [d1, d2, d3, d4, d5, d6] => { results := [.lit (.bool true)], args := [d1, d2, d3, d4, d5, d6] }
  | _ => none }
def fnExactWaterForRow : OpenClaim := { program := "ytobpeiimiglknaa", sum := "5a623c117eecc03cae68e0bed4ff470d3c2bc63133c43464cdcbdb981d70f2d9", func := "loop.example/g01057/laws.FnExactWaterFor", spec := "fnExactWaterFor", unfollowed := true, recurses := true, apart := false }
def FnExactWaterForSaid : Prop := fnExactWaterForRow.holds Try.pinned (OpenSpec.ofChange fnExactWaterForSpec)

/-- ITS FALSE NEIGHBOUR: 'it returns false'. Refute it at one input. -/
def fnExactWaterForWrong : ChangeSpec := { name := "fnExactWaterFor", fn := fun _ => fun
  | [d1, d2, d3, d4, d5, d6] => { results := [.lit (.bool false)], args := [d1, d2, d3, d4, d5, d6] }
  | _ => none }
def FnExactWaterForWrongFalsely : Prop := fnExactWaterForRow.holds Try.pinned (OpenSpec.ofChange fnExactWaterForWrong)

/-- 'laws.FnExactStoreAfter': WHATEVER THE INPUT: true; the input reads as it did. -/
def fnExactStoreAfterSpec : ChangeSpec := { name := "fnExactStoreAfter", fn := fun _ => fun
  | [d1, d2, d3] => { results := [.lit (.bool true)], args := [d1, d2, d3] }
  | _ => none }
def fnExactStoreAfterRow : OpenClaim := { program := "ytobpeiimiglknaa", sum := "5a623c117eecc03cae68e0bed4ff470d3c2bc63133c43464cdcbdb981d70f2d9", func := "loop.example/g01057/laws.FnExactStoreAfter", spec := "fnExactStoreAfter", unfollowed := true, recurses := true, apart := false }
def FnExactStoreAfterSaid : Prop := fnExactStoreAfterRow.holds Try.pinned (OpenSpec.ofChange fnExactStoreAfterSpec)

/-- ITS FALSE NEIGHBOUR: 'it returns false'. Refute it at one input. -/
def fnExactStoreAfterWrong : ChangeSpec := { name := "fnExactStoreAfter", fn := fun _ => fun
  | [d1, d2, d3] => { results := [.lit (.bool false)], args := [d1, d2, d3] }
  | _ => none }
def FnExactStoreAfterWrongFalsely : Prop := fnExactStoreAfterRow.holds Try.pinned (OpenSpec.ofChange fnExactStoreAfterWrong)

/-- 'laws.FnExactTripWaters': WHATEVER THE INPUT: true; the input reads as it did. -/
def fnExactTripWatersSpec : ChangeSpec := { name := "fnExactTripWaters", fn := fun _ => fun
  | [d1, d2, d3, d4, d5, d6] => { results := [.lit (.bool true)], args := [d1, d2, d3, d4, d5, d6] }
  | _ => none }
def fnExactTripWatersRow : OpenClaim := { program := "ytobpeiimiglknaa", sum := "5a623c117eecc03cae68e0bed4ff470d3c2bc63133c43464cdcbdb981d70f2d9", func := "loop.example/g01057/laws.FnExactTripWaters", spec := "fnExactTripWaters", unfollowed := true, recurses := true, apart := false }
def FnExactTripWatersSaid : Prop := fnExactTripWatersRow.holds Try.pinned (OpenSpec.ofChange fnExactTripWatersSpec)

/-- ITS FALSE NEIGHBOUR: 'it returns false'. Refute it at one input. -/
def fnExactTripWatersWrong : ChangeSpec := { name := "fnExactTripWaters", fn := fun _ => fun
  | [d1, d2, d3, d4, d5, d6] => { results := [.lit (.bool false)], args := [d1, d2, d3, d4, d5, d6] }
  | _ => none }
def FnExactTripWatersWrongFalsely : Prop := fnExactTripWatersRow.holds Try.pinned (OpenSpec.ofChange fnExactTripWatersWrong)

/- THE SECOND FORM. 'bulk': how many values and letters a reading holds, each counted each time it is reached (what is shared counts as often as it is met; a slice's spare places count too). A statement '..UptoSaid' is the law's where the arguments, and the package variables that the reading takes, are together of bulk at most 1048576: NARROWER than '..Said'. Prove '..Said' where nothing that the law and all that it calls make is longer than what came in: it says more and counts as full. Else prove '..UptoSaid'. A law counts once. -/
mutual
def uptoBulk {H : Type} : DataW H → Nat
  | .lit (.string bytes) => bytes.length + 1
  | .lit _ => 1
  | .nil => 1
  | .ptr d => uptoBulk d + 1
  | .slice elems spare => uptoBulkAll elems + uptoBulkAll spare + 1
  | .agg parts => uptoBulkAll parts + 1
  | .iface _ d => uptoBulk d + 1
  | .map entries => uptoBulkEntries entries + 1
  | .held _ => 1
def uptoBulkAll {H : Type} : List (DataW H) → Nat
  | [] => 0
  | d :: r => uptoBulk d + uptoBulkAll r
def uptoBulkEntries {H : Type} : List (Lit × DataW H) → Nat
  | [] => 0
  | x :: r => uptoBulkEntry x + uptoBulkEntries r
def uptoBulkEntry {H : Type} : Lit × DataW H → Nat
  | (.string bytes, d) => bytes.length + uptoBulk d + 1
  | (_, d) => uptoBulk d + 1
 end
def uptoSmall : (H : Type) → List (DataW H) → Bool := fun _ ds => decide (uptoBulkAll ds ≤ 1048576)
def OpenSpec.upto (s : _root_.Go.ChangeSpec) : _root_.Go.OpenSpec := { _root_.Go.OpenSpec.ofChange s with cond := some uptoSmall }

/-- 'laws.FnExactSmoothArrivals', WHERE WHAT IT READS IS OF BULK AT MOST 1048576: true; the input reads as it did. -/
def fnExactSmoothArrivalsUptoRow : OpenClaim := { program := "ytobpeiimiglknaa", sum := "5a623c117eecc03cae68e0bed4ff470d3c2bc63133c43464cdcbdb981d70f2d9", func := "loop.example/g01057/laws.FnExactSmoothArrivals", spec := "fnExactSmoothArrivals", unfollowed := true, recurses := true, apart := false, narrowed := true }
def FnExactSmoothArrivalsUptoSaid : Prop := fnExactSmoothArrivalsUptoRow.holds Try.pinned (OpenSpec.upto fnExactSmoothArrivalsSpec)

/-- 'laws.FnExactQueuesOf', WHERE WHAT IT READS IS OF BULK AT MOST 1048576: true; the input reads as it did. -/
def fnExactQueuesOfUptoRow : OpenClaim := { program := "ytobpeiimiglknaa", sum := "5a623c117eecc03cae68e0bed4ff470d3c2bc63133c43464cdcbdb981d70f2d9", func := "loop.example/g01057/laws.FnExactQueuesOf", spec := "fnExactQueuesOf", unfollowed := true, recurses := true, apart := false, narrowed := true }
def FnExactQueuesOfUptoSaid : Prop := fnExactQueuesOfUptoRow.holds Try.pinned (OpenSpec.upto fnExactQueuesOfSpec)

/-- 'laws.FnExactRidesToClear', WHERE WHAT IT READS IS OF BULK AT MOST 1048576: true; the input reads as it did. -/
def fnExactRidesToClearUptoRow : OpenClaim := { program := "ytobpeiimiglknaa", sum := "5a623c117eecc03cae68e0bed4ff470d3c2bc63133c43464cdcbdb981d70f2d9", func := "loop.example/g01057/laws.FnExactRidesToClear", spec := "fnExactRidesToClear", unfollowed := true, recurses := true, apart := false, narrowed := true }
def FnExactRidesToClearUptoSaid : Prop := fnExactRidesToClearUptoRow.holds Try.pinned (OpenSpec.upto fnExactRidesToClearSpec)

/-- 'laws.FnExactWaitOfPerson', WHERE WHAT IT READS IS OF BULK AT MOST 1048576: true; the input reads as it did. -/
def fnExactWaitOfPersonUptoRow : OpenClaim := { program := "ytobpeiimiglknaa", sum := "5a623c117eecc03cae68e0bed4ff470d3c2bc63133c43464cdcbdb981d70f2d9", func := "loop.example/g01057/laws.FnExactWaitOfPerson", spec := "fnExactWaitOfPerson", unfollowed := true, recurses := true, apart := false, narrowed := true }
def FnExactWaitOfPersonUptoSaid : Prop := fnExactWaitOfPersonUptoRow.holds Try.pinned (OpenSpec.upto fnExactWaitOfPersonSpec)

/-- 'laws.FnExactExtraRide', WHERE WHAT IT READS IS OF BULK AT MOST 1048576: true; the input reads as it did. -/
def fnExactExtraRideUptoRow : OpenClaim := { program := "ytobpeiimiglknaa", sum := "5a623c117eecc03cae68e0bed4ff470d3c2bc63133c43464cdcbdb981d70f2d9", func := "loop.example/g01057/laws.FnExactExtraRide", spec := "fnExactExtraRide", unfollowed := true, recurses := true, apart := false, narrowed := true }
def FnExactExtraRideUptoSaid : Prop := fnExactExtraRideUptoRow.holds Try.pinned (OpenSpec.upto fnExactExtraRideSpec)

/-- 'laws.FnExactLeastSeats', WHERE WHAT IT READS IS OF BULK AT MOST 1048576: true; the input reads as it did. -/
def fnExactLeastSeatsUptoRow : OpenClaim := { program := "ytobpeiimiglknaa", sum := "5a623c117eecc03cae68e0bed4ff470d3c2bc63133c43464cdcbdb981d70f2d9", func := "loop.example/g01057/laws.FnExactLeastSeats", spec := "fnExactLeastSeats", unfollowed := true, recurses := true, apart := false, narrowed := true }
def FnExactLeastSeatsUptoSaid : Prop := fnExactLeastSeatsUptoRow.holds Try.pinned (OpenSpec.upto fnExactLeastSeatsSpec)

/-- 'laws.FnExactGapFor', WHERE WHAT IT READS IS OF BULK AT MOST 1048576: true; the input reads as it did. -/
def fnExactGapForUptoRow : OpenClaim := { program := "ytobpeiimiglknaa", sum := "5a623c117eecc03cae68e0bed4ff470d3c2bc63133c43464cdcbdb981d70f2d9", func := "loop.example/g01057/laws.FnExactGapFor", spec := "fnExactGapFor", unfollowed := true, recurses := true, apart := false, narrowed := true }
def FnExactGapForUptoSaid : Prop := fnExactGapForUptoRow.holds Try.pinned (OpenSpec.upto fnExactGapForSpec)

/-- 'laws.FnExactWaterFor', WHERE WHAT IT READS IS OF BULK AT MOST 1048576: true; the input reads as it did. -/
def fnExactWaterForUptoRow : OpenClaim := { program := "ytobpeiimiglknaa", sum := "5a623c117eecc03cae68e0bed4ff470d3c2bc63133c43464cdcbdb981d70f2d9", func := "loop.example/g01057/laws.FnExactWaterFor", spec := "fnExactWaterFor", unfollowed := true, recurses := true, apart := false, narrowed := true }
def FnExactWaterForUptoSaid : Prop := fnExactWaterForUptoRow.holds Try.pinned (OpenSpec.upto fnExactWaterForSpec)

/-- 'laws.FnExactStoreAfter', WHERE WHAT IT READS IS OF BULK AT MOST 1048576: true; the input reads as it did. -/
def fnExactStoreAfterUptoRow : OpenClaim := { program := "ytobpeiimiglknaa", sum := "5a623c117eecc03cae68e0bed4ff470d3c2bc63133c43464cdcbdb981d70f2d9", func := "loop.example/g01057/laws.FnExactStoreAfter", spec := "fnExactStoreAfter", unfollowed := true, recurses := true, apart := false, narrowed := true }
def FnExactStoreAfterUptoSaid : Prop := fnExactStoreAfterUptoRow.holds Try.pinned (OpenSpec.upto fnExactStoreAfterSpec)

/-- 'laws.FnExactTripWaters', WHERE WHAT IT READS IS OF BULK AT MOST 1048576: true; the input reads as it did. -/
def fnExactTripWatersUptoRow : OpenClaim := { program := "ytobpeiimiglknaa", sum := "5a623c117eecc03cae68e0bed4ff470d3c2bc63133c43464cdcbdb981d70f2d9", func := "loop.example/g01057/laws.FnExactTripWaters", spec := "fnExactTripWaters", unfollowed := true, recurses := true, apart := false, narrowed := true }
def FnExactTripWatersUptoSaid : Prop := fnExactTripWatersUptoRow.holds Try.pinned (OpenSpec.upto fnExactTripWatersSpec)

end Rows
end Go.Proofs.Ytobpeiimiglknaa
