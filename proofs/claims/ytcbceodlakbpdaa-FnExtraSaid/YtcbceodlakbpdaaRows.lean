/-
  No cell of these rows narrows 'for every input' (looked for: loops, veiled, ifaces, maps, wideKeys, modest, calm, conditions, laid).
  DERIVED. THE GIVEN ROWS OF THIS SEAT. 9 by the template 'for every input the law returns true; each argument reads behind the call as it read before'; 0 by the template 'total and deterministic' (their statements: YtcbceodlakbpdaaTotals.lean).
  GIVEN WITH THE SEED: the statements are not yours to turn. If you find one false, say at which input.
  Laid BY PROGRAM, IN A SANDBOX (cutbox-rows.mjs): the forced cells as the released guide's own fill.sh prints them over the translation a6157ad768451201… (all of the seat's roots in one cut). By AI agents, Wed Nov 11 2026. No macro, syntax, notation, axiom, sorry.
-/
import Derived.Test.YtcbceodlakbpdaaChecked
import GoSem.Claim
import GoSem.ClaimJoined
import GoSem.ClaimMapViews
import Derived.JoinedTies
import Derived.KernelRfl
namespace Go.Proofs.Ytcbceodlakbpdaa
/- THE CELL 'sum', in the pinned program and in every row, IS THE sha256 OF THE DUMP (.gsa) THAT YtcbceodlakbpdaaProg.lean LOADS. Nothing in Lean hashes anything: it is a label: what it is worth is what the hold of that sum in a sandbox is worth. -/
noncomputable def Try.pinned : Pinned := { name := "ytcbceodlakbpdaa", sum := "a6157ad7684512012bc55a65a530130370c918f110072e1b78d63558013de389", checked := Try.checked }
namespace Rows
def none {H : Type} : Left H := { results := [], args := [] }

/-- 'laws.FnExactLongestWait': WHATEVER THE INPUT: true; the input reads as it did. -/
def fnExactLongestWaitSpec : ChangeSpec := { name := "fnExactLongestWait", fn := fun _ => fun
  | [d] => { results := [.lit (.bool true)], args := [d] }
  | _ => none }
def fnExactLongestWaitRow : OpenClaim := { program := "ytcbceodlakbpdaa", sum := "a6157ad7684512012bc55a65a530130370c918f110072e1b78d63558013de389", func := "loop.example/g01057/laws.FnExactLongestWait", spec := "fnExactLongestWait", apart := false }
def FnExactLongestWaitSaid : Prop := fnExactLongestWaitRow.holds Try.pinned (OpenSpec.ofChange fnExactLongestWaitSpec)

/-- ITS FALSE NEIGHBOUR: 'it returns false'. Refute it at one input. -/
def fnExactLongestWaitWrong : ChangeSpec := { name := "fnExactLongestWait", fn := fun _ => fun
  | [d] => { results := [.lit (.bool false)], args := [d] }
  | _ => none }
def FnExactLongestWaitWrongFalsely : Prop := fnExactLongestWaitRow.holds Try.pinned (OpenSpec.ofChange fnExactLongestWaitWrong)

/-- 'laws.FnExactNextRide': WHATEVER THE INPUT: true; the input reads as it did. -/
def fnExactNextRideSpec : ChangeSpec := { name := "fnExactNextRide", fn := fun _ => fun
  | [d1, d2] => { results := [.lit (.bool true)], args := [d1, d2] }
  | _ => none }
def fnExactNextRideRow : OpenClaim := { program := "ytcbceodlakbpdaa", sum := "a6157ad7684512012bc55a65a530130370c918f110072e1b78d63558013de389", func := "loop.example/g01057/laws.FnExactNextRide", spec := "fnExactNextRide", unfollowed := true, recurses := true, apart := false }
def FnExactNextRideSaid : Prop := fnExactNextRideRow.holds Try.pinned (OpenSpec.ofChange fnExactNextRideSpec)

/-- ITS FALSE NEIGHBOUR: 'it returns false'. Refute it at one input. -/
def fnExactNextRideWrong : ChangeSpec := { name := "fnExactNextRide", fn := fun _ => fun
  | [d1, d2] => { results := [.lit (.bool false)], args := [d1, d2] }
  | _ => none }
def FnExactNextRideWrongFalsely : Prop := fnExactNextRideRow.holds Try.pinned (OpenSpec.ofChange fnExactNextRideWrong)

/-- 'laws.FnExactFirstGap': WHATEVER THE INPUT: true; the input reads as it did. -/
def fnExactFirstGapSpec : ChangeSpec := { name := "fnExactFirstGap", fn := fun _ => fun
  | [d1, d2, d3, d4] => { results := [.lit (.bool true)], args := [d1, d2, d3, d4] }
  | _ => none }
def fnExactFirstGapRow : OpenClaim := { program := "ytcbceodlakbpdaa", sum := "a6157ad7684512012bc55a65a530130370c918f110072e1b78d63558013de389", func := "loop.example/g01057/laws.FnExactFirstGap", spec := "fnExactFirstGap", unfollowed := true, recurses := true, apart := false }
def FnExactFirstGapSaid : Prop := fnExactFirstGapRow.holds Try.pinned (OpenSpec.ofChange fnExactFirstGapSpec)

/-- ITS FALSE NEIGHBOUR: 'it returns false'. Refute it at one input. -/
def fnExactFirstGapWrong : ChangeSpec := { name := "fnExactFirstGap", fn := fun _ => fun
  | [d1, d2, d3, d4] => { results := [.lit (.bool false)], args := [d1, d2, d3, d4] }
  | _ => none }
def FnExactFirstGapWrongFalsely : Prop := fnExactFirstGapRow.holds Try.pinned (OpenSpec.ofChange fnExactFirstGapWrong)

/-- 'laws.FnExactSlackOf': WHATEVER THE INPUT: true; the input reads as it did. -/
def fnExactSlackOfSpec : ChangeSpec := { name := "fnExactSlackOf", fn := fun _ => fun
  | [d1, d2] => { results := [.lit (.bool true)], args := [d1, d2] }
  | _ => none }
def fnExactSlackOfRow : OpenClaim := { program := "ytcbceodlakbpdaa", sum := "a6157ad7684512012bc55a65a530130370c918f110072e1b78d63558013de389", func := "loop.example/g01057/laws.FnExactSlackOf", spec := "fnExactSlackOf", apart := false }
def FnExactSlackOfSaid : Prop := fnExactSlackOfRow.holds Try.pinned (OpenSpec.ofChange fnExactSlackOfSpec)

/-- ITS FALSE NEIGHBOUR: 'it returns false'. Refute it at one input. -/
def fnExactSlackOfWrong : ChangeSpec := { name := "fnExactSlackOf", fn := fun _ => fun
  | [d1, d2] => { results := [.lit (.bool false)], args := [d1, d2] }
  | _ => none }
def FnExactSlackOfWrongFalsely : Prop := fnExactSlackOfRow.holds Try.pinned (OpenSpec.ofChange fnExactSlackOfWrong)

/-- 'laws.FnExactTotalDelay': WHATEVER THE INPUT: true; the input reads as it did. -/
def fnExactTotalDelaySpec : ChangeSpec := { name := "fnExactTotalDelay", fn := fun _ => fun
  | [d1, d2, d3, d4] => { results := [.lit (.bool true)], args := [d1, d2, d3, d4] }
  | _ => none }
def fnExactTotalDelayRow : OpenClaim := { program := "ytcbceodlakbpdaa", sum := "a6157ad7684512012bc55a65a530130370c918f110072e1b78d63558013de389", func := "loop.example/g01057/laws.FnExactTotalDelay", spec := "fnExactTotalDelay", apart := false }
def FnExactTotalDelaySaid : Prop := fnExactTotalDelayRow.holds Try.pinned (OpenSpec.ofChange fnExactTotalDelaySpec)

/-- ITS FALSE NEIGHBOUR: 'it returns false'. Refute it at one input. -/
def fnExactTotalDelayWrong : ChangeSpec := { name := "fnExactTotalDelay", fn := fun _ => fun
  | [d1, d2, d3, d4] => { results := [.lit (.bool false)], args := [d1, d2, d3, d4] }
  | _ => none }
def FnExactTotalDelayWrongFalsely : Prop := fnExactTotalDelayRow.holds Try.pinned (OpenSpec.ofChange fnExactTotalDelayWrong)

/-- 'laws.FnExactRidesBetween': WHATEVER THE INPUT: true; the input reads as it did. -/
def fnExactRidesBetweenSpec : ChangeSpec := { name := "fnExactRidesBetween", fn := fun _ => fun
  | [d1, d2, d3] => { results := [.lit (.bool true)], args := [d1, d2, d3] }
  | _ => none }
def fnExactRidesBetweenRow : OpenClaim := { program := "ytcbceodlakbpdaa", sum := "a6157ad7684512012bc55a65a530130370c918f110072e1b78d63558013de389", func := "loop.example/g01057/laws.FnExactRidesBetween", spec := "fnExactRidesBetween", apart := false }
def FnExactRidesBetweenSaid : Prop := fnExactRidesBetweenRow.holds Try.pinned (OpenSpec.ofChange fnExactRidesBetweenSpec)

/-- ITS FALSE NEIGHBOUR: 'it returns false'. Refute it at one input. -/
def fnExactRidesBetweenWrong : ChangeSpec := { name := "fnExactRidesBetween", fn := fun _ => fun
  | [d1, d2, d3] => { results := [.lit (.bool false)], args := [d1, d2, d3] }
  | _ => none }
def FnExactRidesBetweenWrongFalsely : Prop := fnExactRidesBetweenRow.holds Try.pinned (OpenSpec.ofChange fnExactRidesBetweenWrong)

/-- 'laws.FnExactDelayedRides': WHATEVER THE INPUT: true; the input reads as it did. -/
def fnExactDelayedRidesSpec : ChangeSpec := { name := "fnExactDelayedRides", fn := fun _ => fun
  | [d1, d2, d3, d4] => { results := [.lit (.bool true)], args := [d1, d2, d3, d4] }
  | _ => none }
def fnExactDelayedRidesRow : OpenClaim := { program := "ytcbceodlakbpdaa", sum := "a6157ad7684512012bc55a65a530130370c918f110072e1b78d63558013de389", func := "loop.example/g01057/laws.FnExactDelayedRides", spec := "fnExactDelayedRides", apart := false }
def FnExactDelayedRidesSaid : Prop := fnExactDelayedRidesRow.holds Try.pinned (OpenSpec.ofChange fnExactDelayedRidesSpec)

/-- ITS FALSE NEIGHBOUR: 'it returns false'. Refute it at one input. -/
def fnExactDelayedRidesWrong : ChangeSpec := { name := "fnExactDelayedRides", fn := fun _ => fun
  | [d1, d2, d3, d4] => { results := [.lit (.bool false)], args := [d1, d2, d3, d4] }
  | _ => none }
def FnExactDelayedRidesWrongFalsely : Prop := fnExactDelayedRidesRow.holds Try.pinned (OpenSpec.ofChange fnExactDelayedRidesWrong)

/-- 'laws.FnExactAddRide': WHATEVER THE INPUT: true; the input reads as it did. -/
def fnExactAddRideSpec : ChangeSpec := { name := "fnExactAddRide", fn := fun _ => fun
  | [d1, d2, d3] => { results := [.lit (.bool true)], args := [d1, d2, d3] }
  | _ => none }
def fnExactAddRideRow : OpenClaim := { program := "ytcbceodlakbpdaa", sum := "a6157ad7684512012bc55a65a530130370c918f110072e1b78d63558013de389", func := "loop.example/g01057/laws.FnExactAddRide", spec := "fnExactAddRide", inPlace := ["slices.overlaps[loop.example/g01057/impl.Ride]"], unfollowed := true, recurses := true, apart := false }
def FnExactAddRideSaid : Prop := fnExactAddRideRow.holds Try.pinned (OpenSpec.ofChange fnExactAddRideSpec)

/-- ITS FALSE NEIGHBOUR: 'it returns false'. Refute it at one input. -/
def fnExactAddRideWrong : ChangeSpec := { name := "fnExactAddRide", fn := fun _ => fun
  | [d1, d2, d3] => { results := [.lit (.bool false)], args := [d1, d2, d3] }
  | _ => none }
def FnExactAddRideWrongFalsely : Prop := fnExactAddRideRow.holds Try.pinned (OpenSpec.ofChange fnExactAddRideWrong)

/-- 'laws.FnExtra': WHATEVER THE INPUT: true; the input reads as it did. -/
def fnExtraSpec : ChangeSpec := { name := "fnExtra", fn := fun _ => fun
  | [d1, d2] => { results := [.lit (.bool true)], args := [d1, d2] }
  | _ => none }
def fnExtraRow : OpenClaim := { program := "ytcbceodlakbpdaa", sum := "a6157ad7684512012bc55a65a530130370c918f110072e1b78d63558013de389", func := "loop.example/g01057/laws.FnExtra", spec := "fnExtra", inPlace := ["slices.overlaps[loop.example/g01057/impl.Ride]"], unfollowed := true, recurses := true, apart := false }
def FnExtraSaid : Prop := fnExtraRow.holds Try.pinned (OpenSpec.ofChange fnExtraSpec)

/-- ITS FALSE NEIGHBOUR: 'it returns false'. Refute it at one input. -/
def fnExtraWrong : ChangeSpec := { name := "fnExtra", fn := fun _ => fun
  | [d1, d2] => { results := [.lit (.bool false)], args := [d1, d2] }
  | _ => none }
def FnExtraWrongFalsely : Prop := fnExtraRow.holds Try.pinned (OpenSpec.ofChange fnExtraWrong)

/- THE SECOND FORM. 'bulk': how many values and letters a reading holds, each counted each time it is reached (what is shared counts as often as it is met; a slice's spare places count too). A statement '..UptoSaid' is the law's where the arguments, and the package variables that the reading takes, are together of bulk at most 1048576: NARROWER than '..Said'. Prove '..Said' where nothing that the law and all that it calls make is longer than what came in: it says more and counts as full. Else prove '..UptoSaid'. A law counts once. -/
mutual
def uptoBulk {H : Type} : DataW H → Nat
  | .lit (.string bytes) => bytes.length + 1
  | .lit _ => 1
  | .nil => 1
  | .ptr d => uptoBulk d + 1
  | .slice elems spare => uptoBulkAll elems + uptoBulkAll spare + 1
  | .agg parts => uptoBulkAll parts + 1
  | .iface _ d => uptoBulk d + 1
  | .map entries => uptoBulkEntries entries + 1
  | .held _ => 1
def uptoBulkAll {H : Type} : List (DataW H) → Nat
  | [] => 0
  | d :: r => uptoBulk d + uptoBulkAll r
def uptoBulkEntries {H : Type} : List (Lit × DataW H) → Nat
  | [] => 0
  | x :: r => uptoBulkEntry x + uptoBulkEntries r
def uptoBulkEntry {H : Type} : Lit × DataW H → Nat
  | (.string bytes, d) => bytes.length + uptoBulk d + 1
  | (_, d) => uptoBulk d + 1
 end
def uptoSmall : (H : Type) → List (DataW H) → Bool := fun _ ds => decide (uptoBulkAll ds ≤ 1048576)
def OpenSpec.upto (s : _root_.Go.ChangeSpec) : _root_.Go.OpenSpec := { _root_.Go.OpenSpec.ofChange s with cond := some uptoSmall }

/-- 'laws.FnExactLongestWait', WHERE WHAT IT READS IS OF BULK AT MOST 1048576: true; the input reads as it did. -/
def fnExactLongestWaitUptoRow : OpenClaim := { program := "ytcbceodlakbpdaa", sum := "a6157ad7684512012bc55a65a530130370c918f110072e1b78d63558013de389", func := "loop.example/g01057/laws.FnExactLongestWait", spec := "fnExactLongestWait", apart := false, narrowed := true }
def FnExactLongestWaitUptoSaid : Prop := fnExactLongestWaitUptoRow.holds Try.pinned (OpenSpec.upto fnExactLongestWaitSpec)

/-- 'laws.FnExactNextRide', WHERE WHAT IT READS IS OF BULK AT MOST 1048576: true; the input reads as it did. -/
def fnExactNextRideUptoRow : OpenClaim := { program := "ytcbceodlakbpdaa", sum := "a6157ad7684512012bc55a65a530130370c918f110072e1b78d63558013de389", func := "loop.example/g01057/laws.FnExactNextRide", spec := "fnExactNextRide", unfollowed := true, recurses := true, apart := false, narrowed := true }
def FnExactNextRideUptoSaid : Prop := fnExactNextRideUptoRow.holds Try.pinned (OpenSpec.upto fnExactNextRideSpec)

/-- 'laws.FnExactFirstGap', WHERE WHAT IT READS IS OF BULK AT MOST 1048576: true; the input reads as it did. -/
def fnExactFirstGapUptoRow : OpenClaim := { program := "ytcbceodlakbpdaa", sum := "a6157ad7684512012bc55a65a530130370c918f110072e1b78d63558013de389", func := "loop.example/g01057/laws.FnExactFirstGap", spec := "fnExactFirstGap", unfollowed := true, recurses := true, apart := false, narrowed := true }
def FnExactFirstGapUptoSaid : Prop := fnExactFirstGapUptoRow.holds Try.pinned (OpenSpec.upto fnExactFirstGapSpec)

/-- 'laws.FnExactSlackOf', WHERE WHAT IT READS IS OF BULK AT MOST 1048576: true; the input reads as it did. -/
def fnExactSlackOfUptoRow : OpenClaim := { program := "ytcbceodlakbpdaa", sum := "a6157ad7684512012bc55a65a530130370c918f110072e1b78d63558013de389", func := "loop.example/g01057/laws.FnExactSlackOf", spec := "fnExactSlackOf", apart := false, narrowed := true }
def FnExactSlackOfUptoSaid : Prop := fnExactSlackOfUptoRow.holds Try.pinned (OpenSpec.upto fnExactSlackOfSpec)

/-- 'laws.FnExactTotalDelay', WHERE WHAT IT READS IS OF BULK AT MOST 1048576: true; the input reads as it did. -/
def fnExactTotalDelayUptoRow : OpenClaim := { program := "ytcbceodlakbpdaa", sum := "a6157ad7684512012bc55a65a530130370c918f110072e1b78d63558013de389", func := "loop.example/g01057/laws.FnExactTotalDelay", spec := "fnExactTotalDelay", apart := false, narrowed := true }
def FnExactTotalDelayUptoSaid : Prop := fnExactTotalDelayUptoRow.holds Try.pinned (OpenSpec.upto fnExactTotalDelaySpec)

/-- 'laws.FnExactRidesBetween', WHERE WHAT IT READS IS OF BULK AT MOST 1048576: true; the input reads as it did. -/
def fnExactRidesBetweenUptoRow : OpenClaim := { program := "ytcbceodlakbpdaa", sum := "a6157ad7684512012bc55a65a530130370c918f110072e1b78d63558013de389", func := "loop.example/g01057/laws.FnExactRidesBetween", spec := "fnExactRidesBetween", apart := false, narrowed := true }
def FnExactRidesBetweenUptoSaid : Prop := fnExactRidesBetweenUptoRow.holds Try.pinned (OpenSpec.upto fnExactRidesBetweenSpec)

/-- 'laws.FnExactDelayedRides', WHERE WHAT IT READS IS OF BULK AT MOST 1048576: true; the input reads as it did. -/
def fnExactDelayedRidesUptoRow : OpenClaim := { program := "ytcbceodlakbpdaa", sum := "a6157ad7684512012bc55a65a530130370c918f110072e1b78d63558013de389", func := "loop.example/g01057/laws.FnExactDelayedRides", spec := "fnExactDelayedRides", apart := false, narrowed := true }
def FnExactDelayedRidesUptoSaid : Prop := fnExactDelayedRidesUptoRow.holds Try.pinned (OpenSpec.upto fnExactDelayedRidesSpec)

/-- 'laws.FnExactAddRide', WHERE WHAT IT READS IS OF BULK AT MOST 1048576: true; the input reads as it did. -/
def fnExactAddRideUptoRow : OpenClaim := { program := "ytcbceodlakbpdaa", sum := "a6157ad7684512012bc55a65a530130370c918f110072e1b78d63558013de389", func := "loop.example/g01057/laws.FnExactAddRide", spec := "fnExactAddRide", inPlace := ["slices.overlaps[loop.example/g01057/impl.Ride]"], unfollowed := true, recurses := true, apart := false, narrowed := true }
def FnExactAddRideUptoSaid : Prop := fnExactAddRideUptoRow.holds Try.pinned (OpenSpec.upto fnExactAddRideSpec)

/-- 'laws.FnExtra', WHERE WHAT IT READS IS OF BULK AT MOST 1048576: true; the input reads as it did. -/
def fnExtraUptoRow : OpenClaim := { program := "ytcbceodlakbpdaa", sum := "a6157ad7684512012bc55a65a530130370c918f110072e1b78d63558013de389", func := "loop.example/g01057/laws.FnExtra", spec := "fnExtra", inPlace := ["slices.overlaps[loop.example/g01057/impl.Ride]"], unfollowed := true, recurses := true, apart := false, narrowed := true }
def FnExtraUptoSaid : Prop := fnExtraUptoRow.holds Try.pinned (OpenSpec.upto fnExtraSpec)

end Rows
end Go.Proofs.Ytcbceodlakbpdaa
