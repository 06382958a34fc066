/-
  No cell of these rows narrows 'for every input' (looked for: loops, veiled, ifaces, maps, wideKeys, modest, calm, conditions, laid).
  DERIVED. THE GIVEN ROWS OF THIS SEAT. 12 by the template 'for every input the law returns true; each argument reads behind the call as it read before'; 0 by the template 'total and deterministic' (their statements: YtfnollbeeehpnaaTotals.lean).
  GIVEN WITH THE SEED: the statements are not yours to turn. If you find one false, say at which input.
  Laid BY PROGRAM, IN A SANDBOX (cutbox-rows.mjs): the forced cells as the released guide's own fill.sh prints them over the translation a40924568764a258… (all of the seat's roots in one cut). By AI agents, Wed Nov 11 2026. No macro, syntax, notation, axiom, sorry.
-/
import Derived.Test.YtfnollbeeehpnaaChecked
import GoSem.Claim
import GoSem.ClaimJoined
import GoSem.ClaimMapViews
import Derived.JoinedTies
import Derived.KernelRfl
namespace Go.Proofs.Ytfnollbeeehpnaa
/- THE CELL 'sum', in the pinned program and in every row, IS THE sha256 OF THE DUMP (.gsa) THAT YtfnollbeeehpnaaProg.lean LOADS. Nothing in Lean hashes anything: it is a label: what it is worth is what the hold of that sum in a sandbox is worth. -/
noncomputable def Try.pinned : Pinned := { name := "ytfnollbeeehpnaa", sum := "a40924568764a2587796435941160ebd1e3bdcdd723bd3ddd36269196d2e4606", checked := Try.checked }
namespace Rows
def none {H : Type} : Left H := { results := [], args := [] }

/-- 'laws.FnExactValidGroups': WHATEVER THE INPUT: true; the input reads as it did. -/
def fnExactValidGroupsSpec : ChangeSpec := { name := "fnExactValidGroups", fn := fun _ => fun
  | [d] => { results := [.lit (.bool true)], args := [d] }
  | _ => none }
def fnExactValidGroupsRow : OpenClaim := { program := "ytfnollbeeehpnaa", sum := "a40924568764a2587796435941160ebd1e3bdcdd723bd3ddd36269196d2e4606", func := "loop.example/g01057/laws.FnExactValidGroups", spec := "fnExactValidGroups", apart := false }
def FnExactValidGroupsSaid : Prop := fnExactValidGroupsRow.holds Try.pinned (OpenSpec.ofChange fnExactValidGroupsSpec)

/-- ITS FALSE NEIGHBOUR: 'it returns false'. Refute it at one input. -/
def fnExactValidGroupsWrong : ChangeSpec := { name := "fnExactValidGroups", fn := fun _ => fun
  | [d] => { results := [.lit (.bool false)], args := [d] }
  | _ => none }
def FnExactValidGroupsWrongFalsely : Prop := fnExactValidGroupsRow.holds Try.pinned (OpenSpec.ofChange fnExactValidGroupsWrong)

/-- 'laws.FnExactLeastRoom': WHATEVER THE INPUT: true; the input reads as it did. -/
def fnExactLeastRoomSpec : ChangeSpec := { name := "fnExactLeastRoom", fn := fun _ => fun
  | [d] => { results := [.lit (.bool true)], args := [d] }
  | _ => none }
def fnExactLeastRoomRow : OpenClaim := { program := "ytfnollbeeehpnaa", sum := "a40924568764a2587796435941160ebd1e3bdcdd723bd3ddd36269196d2e4606", func := "loop.example/g01057/laws.FnExactLeastRoom", spec := "fnExactLeastRoom", apart := false }
def FnExactLeastRoomSaid : Prop := fnExactLeastRoomRow.holds Try.pinned (OpenSpec.ofChange fnExactLeastRoomSpec)

/-- ITS FALSE NEIGHBOUR: 'it returns false'. Refute it at one input. -/
def fnExactLeastRoomWrong : ChangeSpec := { name := "fnExactLeastRoom", fn := fun _ => fun
  | [d] => { results := [.lit (.bool false)], args := [d] }
  | _ => none }
def FnExactLeastRoomWrongFalsely : Prop := fnExactLeastRoomRow.holds Try.pinned (OpenSpec.ofChange fnExactLeastRoomWrong)

/-- 'laws.FnExactFitsCar': WHATEVER THE INPUT: true; the input reads as it did. -/
def fnExactFitsCarSpec : ChangeSpec := { name := "fnExactFitsCar", fn := fun _ => fun
  | [d1, d2, d3] => { results := [.lit (.bool true)], args := [d1, d2, d3] }
  | _ => none }
def fnExactFitsCarRow : OpenClaim := { program := "ytfnollbeeehpnaa", sum := "a40924568764a2587796435941160ebd1e3bdcdd723bd3ddd36269196d2e4606", func := "loop.example/g01057/laws.FnExactFitsCar", spec := "fnExactFitsCar", apart := false }
def FnExactFitsCarSaid : Prop := fnExactFitsCarRow.holds Try.pinned (OpenSpec.ofChange fnExactFitsCarSpec)

/-- ITS FALSE NEIGHBOUR: 'it returns false'. Refute it at one input. -/
def fnExactFitsCarWrong : ChangeSpec := { name := "fnExactFitsCar", fn := fun _ => fun
  | [d1, d2, d3] => { results := [.lit (.bool false)], args := [d1, d2, d3] }
  | _ => none }
def FnExactFitsCarWrongFalsely : Prop := fnExactFitsCarRow.holds Try.pinned (OpenSpec.ofChange fnExactFitsCarWrong)

/-- 'laws.FnExactTooLarge': WHATEVER THE INPUT: true; the input reads as it did. -/
def fnExactTooLargeSpec : ChangeSpec := { name := "fnExactTooLarge", fn := fun _ => fun
  | [d1, d2] => { results := [.lit (.bool true)], args := [d1, d2] }
  | _ => none }
def fnExactTooLargeRow : OpenClaim := { program := "ytfnollbeeehpnaa", sum := "a40924568764a2587796435941160ebd1e3bdcdd723bd3ddd36269196d2e4606", func := "loop.example/g01057/laws.FnExactTooLarge", spec := "fnExactTooLarge", apart := false }
def FnExactTooLargeSaid : Prop := fnExactTooLargeRow.holds Try.pinned (OpenSpec.ofChange fnExactTooLargeSpec)

/-- ITS FALSE NEIGHBOUR: 'it returns false'. Refute it at one input. -/
def fnExactTooLargeWrong : ChangeSpec := { name := "fnExactTooLarge", fn := fun _ => fun
  | [d1, d2] => { results := [.lit (.bool false)], args := [d1, d2] }
  | _ => none }
def FnExactTooLargeWrongFalsely : Prop := fnExactTooLargeRow.holds Try.pinned (OpenSpec.ofChange fnExactTooLargeWrong)

/-- 'laws.FnExactFirstRides': WHATEVER THE INPUT: true; the input reads as it did. -/
def fnExactFirstRidesSpec : ChangeSpec := { name := "fnExactFirstRides", fn := fun _ => fun
  | [d1, d2] => { results := [.lit (.bool true)], args := [d1, d2] }
  | _ => none }
def fnExactFirstRidesRow : OpenClaim := { program := "ytfnollbeeehpnaa", sum := "a40924568764a2587796435941160ebd1e3bdcdd723bd3ddd36269196d2e4606", func := "loop.example/g01057/laws.FnExactFirstRides", spec := "fnExactFirstRides", apart := false }
def FnExactFirstRidesSaid : Prop := fnExactFirstRidesRow.holds Try.pinned (OpenSpec.ofChange fnExactFirstRidesSpec)

/-- ITS FALSE NEIGHBOUR: 'it returns false'. Refute it at one input. -/
def fnExactFirstRidesWrong : ChangeSpec := { name := "fnExactFirstRides", fn := fun _ => fun
  | [d1, d2] => { results := [.lit (.bool false)], args := [d1, d2] }
  | _ => none }
def FnExactFirstRidesWrongFalsely : Prop := fnExactFirstRidesRow.holds Try.pinned (OpenSpec.ofChange fnExactFirstRidesWrong)

/-- 'laws.FnExactValidFares': WHATEVER THE INPUT: true; the input reads as it did. -/
def fnExactValidFaresSpec : ChangeSpec := { name := "fnExactValidFares", fn := fun _ => fun
  | [d] => { results := [.lit (.bool true)], args := [d] }
  | _ => none }
def fnExactValidFaresRow : OpenClaim := { program := "ytfnollbeeehpnaa", sum := "a40924568764a2587796435941160ebd1e3bdcdd723bd3ddd36269196d2e4606", func := "loop.example/g01057/laws.FnExactValidFares", spec := "fnExactValidFares", apart := false }
def FnExactValidFaresSaid : Prop := fnExactValidFaresRow.holds Try.pinned (OpenSpec.ofChange fnExactValidFaresSpec)

/-- ITS FALSE NEIGHBOUR: 'it returns false'. Refute it at one input. -/
def fnExactValidFaresWrong : ChangeSpec := { name := "fnExactValidFares", fn := fun _ => fun
  | [d] => { results := [.lit (.bool false)], args := [d] }
  | _ => none }
def FnExactValidFaresWrongFalsely : Prop := fnExactValidFaresRow.holds Try.pinned (OpenSpec.ofChange fnExactValidFaresWrong)

/-- 'laws.FnExactCostOfEach': WHATEVER THE INPUT: true; the input reads as it did. -/
def fnExactCostOfEachSpec : ChangeSpec := { name := "fnExactCostOfEach", fn := fun _ => fun
  | [d1, d2] => { results := [.lit (.bool true)], args := [d1, d2] }
  | _ => none }
def fnExactCostOfEachRow : OpenClaim := { program := "ytfnollbeeehpnaa", sum := "a40924568764a2587796435941160ebd1e3bdcdd723bd3ddd36269196d2e4606", func := "loop.example/g01057/laws.FnExactCostOfEach", spec := "fnExactCostOfEach", unfollowed := true, recurses := true, apart := false }
def FnExactCostOfEachSaid : Prop := fnExactCostOfEachRow.holds Try.pinned (OpenSpec.ofChange fnExactCostOfEachSpec)

/-- ITS FALSE NEIGHBOUR: 'it returns false'. Refute it at one input. -/
def fnExactCostOfEachWrong : ChangeSpec := { name := "fnExactCostOfEach", fn := fun _ => fun
  | [d1, d2] => { results := [.lit (.bool false)], args := [d1, d2] }
  | _ => none }
def FnExactCostOfEachWrongFalsely : Prop := fnExactCostOfEachRow.holds Try.pinned (OpenSpec.ofChange fnExactCostOfEachWrong)

/-- 'laws.FnExactPayGroups': WHATEVER THE INPUT: true; the input reads as it did. -/
def fnExactPayGroupsSpec : ChangeSpec := { name := "fnExactPayGroups", fn := fun _ => fun
  | [d1, d2, d3, d4, d5] => { results := [.lit (.bool true)], args := [d1, d2, d3, d4, d5] }
  | _ => none }
def fnExactPayGroupsRow : OpenClaim := { program := "ytfnollbeeehpnaa", sum := "a40924568764a2587796435941160ebd1e3bdcdd723bd3ddd36269196d2e4606", func := "loop.example/g01057/laws.FnExactPayGroups", spec := "fnExactPayGroups", unfollowed := true, recurses := true, apart := false }
def FnExactPayGroupsSaid : Prop := fnExactPayGroupsRow.holds Try.pinned (OpenSpec.ofChange fnExactPayGroupsSpec)

/-- ITS FALSE NEIGHBOUR: 'it returns false'. Refute it at one input. -/
def fnExactPayGroupsWrong : ChangeSpec := { name := "fnExactPayGroups", fn := fun _ => fun
  | [d1, d2, d3, d4, d5] => { results := [.lit (.bool false)], args := [d1, d2, d3, d4, d5] }
  | _ => none }
def FnExactPayGroupsWrongFalsely : Prop := fnExactPayGroupsRow.holds Try.pinned (OpenSpec.ofChange fnExactPayGroupsWrong)

/-- 'laws.FnExactBreakEven': WHATEVER THE INPUT: true; the input reads as it did. -/
def fnExactBreakEvenSpec : ChangeSpec := { name := "fnExactBreakEven", fn := fun _ => fun
  | [d1, d2, d3] => { results := [.lit (.bool true)], args := [d1, d2, d3] }
  | _ => none }
def fnExactBreakEvenRow : OpenClaim := { program := "ytfnollbeeehpnaa", sum := "a40924568764a2587796435941160ebd1e3bdcdd723bd3ddd36269196d2e4606", func := "loop.example/g01057/laws.FnExactBreakEven", spec := "fnExactBreakEven", unfollowed := true, recurses := true, apart := false }
def FnExactBreakEvenSaid : Prop := fnExactBreakEvenRow.holds Try.pinned (OpenSpec.ofChange fnExactBreakEvenSpec)

/-- ITS FALSE NEIGHBOUR: 'it returns false'. Refute it at one input. -/
def fnExactBreakEvenWrong : ChangeSpec := { name := "fnExactBreakEven", fn := fun _ => fun
  | [d1, d2, d3] => { results := [.lit (.bool false)], args := [d1, d2, d3] }
  | _ => none }
def FnExactBreakEvenWrongFalsely : Prop := fnExactBreakEvenRow.holds Try.pinned (OpenSpec.ofChange fnExactBreakEvenWrong)

/-- 'laws.FnExactGroupCents': WHATEVER THE INPUT: true; the input reads as it did. -/
def fnExactGroupCentsSpec : ChangeSpec := { name := "fnExactGroupCents", fn := fun _ => fun
  | [d1, d2, d3, d4, d5] => { results := [.lit (.bool true)], args := [d1, d2, d3, d4, d5] }
  | _ => none }
def fnExactGroupCentsRow : OpenClaim := { program := "ytfnollbeeehpnaa", sum := "a40924568764a2587796435941160ebd1e3bdcdd723bd3ddd36269196d2e4606", func := "loop.example/g01057/laws.FnExactGroupCents", spec := "fnExactGroupCents", unfollowed := true, recurses := true, apart := false }
def FnExactGroupCentsSaid : Prop := fnExactGroupCentsRow.holds Try.pinned (OpenSpec.ofChange fnExactGroupCentsSpec)

/-- ITS FALSE NEIGHBOUR: 'it returns false'. Refute it at one input. -/
def fnExactGroupCentsWrong : ChangeSpec := { name := "fnExactGroupCents", fn := fun _ => fun
  | [d1, d2, d3, d4, d5] => { results := [.lit (.bool false)], args := [d1, d2, d3, d4, d5] }
  | _ => none }
def FnExactGroupCentsWrongFalsely : Prop := fnExactGroupCentsRow.holds Try.pinned (OpenSpec.ofChange fnExactGroupCentsWrong)

/-- 'laws.FnExactTicketLeft': WHATEVER THE INPUT: true; the input reads as it did. -/
def fnExactTicketLeftSpec : ChangeSpec := { name := "fnExactTicketLeft", fn := fun _ => fun
  | [d1, d2, d3] => { results := [.lit (.bool true)], args := [d1, d2, d3] }
  | _ => none }
def fnExactTicketLeftRow : OpenClaim := { program := "ytfnollbeeehpnaa", sum := "a40924568764a2587796435941160ebd1e3bdcdd723bd3ddd36269196d2e4606", func := "loop.example/g01057/laws.FnExactTicketLeft", spec := "fnExactTicketLeft", unfollowed := true, recurses := true, apart := false }
def FnExactTicketLeftSaid : Prop := fnExactTicketLeftRow.holds Try.pinned (OpenSpec.ofChange fnExactTicketLeftSpec)

/-- ITS FALSE NEIGHBOUR: 'it returns false'. Refute it at one input. -/
def fnExactTicketLeftWrong : ChangeSpec := { name := "fnExactTicketLeft", fn := fun _ => fun
  | [d1, d2, d3] => { results := [.lit (.bool false)], args := [d1, d2, d3] }
  | _ => none }
def FnExactTicketLeftWrongFalsely : Prop := fnExactTicketLeftRow.holds Try.pinned (OpenSpec.ofChange fnExactTicketLeftWrong)

/-- 'laws.FnExactUseTicket': WHATEVER THE INPUT: true; the input reads as it did. -/
def fnExactUseTicketSpec : ChangeSpec := { name := "fnExactUseTicket", fn := fun _ => fun
  | [d1, d2, d3] => { results := [.lit (.bool true)], args := [d1, d2, d3] }
  | _ => none }
def fnExactUseTicketRow : OpenClaim := { program := "ytfnollbeeehpnaa", sum := "a40924568764a2587796435941160ebd1e3bdcdd723bd3ddd36269196d2e4606", func := "loop.example/g01057/laws.FnExactUseTicket", spec := "fnExactUseTicket", unfollowed := true, recurses := true, apart := false }
def FnExactUseTicketSaid : Prop := fnExactUseTicketRow.holds Try.pinned (OpenSpec.ofChange fnExactUseTicketSpec)

/-- ITS FALSE NEIGHBOUR: 'it returns false'. Refute it at one input. -/
def fnExactUseTicketWrong : ChangeSpec := { name := "fnExactUseTicket", fn := fun _ => fun
  | [d1, d2, d3] => { results := [.lit (.bool false)], args := [d1, d2, d3] }
  | _ => none }
def FnExactUseTicketWrongFalsely : Prop := fnExactUseTicketRow.holds Try.pinned (OpenSpec.ofChange fnExactUseTicketWrong)

/- THE SECOND FORM. 'bulk': how many values and letters a reading holds, each counted each time it is reached (what is shared counts as often as it is met; a slice's spare places count too). A statement '..UptoSaid' is the law's where the arguments, and the package variables that the reading takes, are together of bulk at most 1048576: NARROWER than '..Said'. Prove '..Said' where nothing that the law and all that it calls make is longer than what came in: it says more and counts as full. Else prove '..UptoSaid'. A law counts once. -/
mutual
def uptoBulk {H : Type} : DataW H → Nat
  | .lit (.string bytes) => bytes.length + 1
  | .lit _ => 1
  | .nil => 1
  | .ptr d => uptoBulk d + 1
  | .slice elems spare => uptoBulkAll elems + uptoBulkAll spare + 1
  | .agg parts => uptoBulkAll parts + 1
  | .iface _ d => uptoBulk d + 1
  | .map entries => uptoBulkEntries entries + 1
  | .held _ => 1
def uptoBulkAll {H : Type} : List (DataW H) → Nat
  | [] => 0
  | d :: r => uptoBulk d + uptoBulkAll r
def uptoBulkEntries {H : Type} : List (Lit × DataW H) → Nat
  | [] => 0
  | x :: r => uptoBulkEntry x + uptoBulkEntries r
def uptoBulkEntry {H : Type} : Lit × DataW H → Nat
  | (.string bytes, d) => bytes.length + uptoBulk d + 1
  | (_, d) => uptoBulk d + 1
 end
def uptoSmall : (H : Type) → List (DataW H) → Bool := fun _ ds => decide (uptoBulkAll ds ≤ 1048576)
def OpenSpec.upto (s : _root_.Go.ChangeSpec) : _root_.Go.OpenSpec := { _root_.Go.OpenSpec.ofChange s with cond := some uptoSmall }

/-- 'laws.FnExactValidGroups', WHERE WHAT IT READS IS OF BULK AT MOST 1048576: true; the input reads as it did. -/
def fnExactValidGroupsUptoRow : OpenClaim := { program := "ytfnollbeeehpnaa", sum := "a40924568764a2587796435941160ebd1e3bdcdd723bd3ddd36269196d2e4606", func := "loop.example/g01057/laws.FnExactValidGroups", spec := "fnExactValidGroups", apart := false, narrowed := true }
def FnExactValidGroupsUptoSaid : Prop := fnExactValidGroupsUptoRow.holds Try.pinned (OpenSpec.upto fnExactValidGroupsSpec)

/-- 'laws.FnExactLeastRoom', WHERE WHAT IT READS IS OF BULK AT MOST 1048576: true; the input reads as it did. -/
def fnExactLeastRoomUptoRow : OpenClaim := { program := "ytfnollbeeehpnaa", sum := "a40924568764a2587796435941160ebd1e3bdcdd723bd3ddd36269196d2e4606", func := "loop.example/g01057/laws.FnExactLeastRoom", spec := "fnExactLeastRoom", apart := false, narrowed := true }
def FnExactLeastRoomUptoSaid : Prop := fnExactLeastRoomUptoRow.holds Try.pinned (OpenSpec.upto fnExactLeastRoomSpec)

/-- 'laws.FnExactFitsCar', WHERE WHAT IT READS IS OF BULK AT MOST 1048576: true; the input reads as it did. -/
def fnExactFitsCarUptoRow : OpenClaim := { program := "ytfnollbeeehpnaa", sum := "a40924568764a2587796435941160ebd1e3bdcdd723bd3ddd36269196d2e4606", func := "loop.example/g01057/laws.FnExactFitsCar", spec := "fnExactFitsCar", apart := false, narrowed := true }
def FnExactFitsCarUptoSaid : Prop := fnExactFitsCarUptoRow.holds Try.pinned (OpenSpec.upto fnExactFitsCarSpec)

/-- 'laws.FnExactTooLarge', WHERE WHAT IT READS IS OF BULK AT MOST 1048576: true; the input reads as it did. -/
def fnExactTooLargeUptoRow : OpenClaim := { program := "ytfnollbeeehpnaa", sum := "a40924568764a2587796435941160ebd1e3bdcdd723bd3ddd36269196d2e4606", func := "loop.example/g01057/laws.FnExactTooLarge", spec := "fnExactTooLarge", apart := false, narrowed := true }
def FnExactTooLargeUptoSaid : Prop := fnExactTooLargeUptoRow.holds Try.pinned (OpenSpec.upto fnExactTooLargeSpec)

/-- 'laws.FnExactFirstRides', WHERE WHAT IT READS IS OF BULK AT MOST 1048576: true; the input reads as it did. -/
def fnExactFirstRidesUptoRow : OpenClaim := { program := "ytfnollbeeehpnaa", sum := "a40924568764a2587796435941160ebd1e3bdcdd723bd3ddd36269196d2e4606", func := "loop.example/g01057/laws.FnExactFirstRides", spec := "fnExactFirstRides", apart := false, narrowed := true }
def FnExactFirstRidesUptoSaid : Prop := fnExactFirstRidesUptoRow.holds Try.pinned (OpenSpec.upto fnExactFirstRidesSpec)

/-- 'laws.FnExactValidFares', WHERE WHAT IT READS IS OF BULK AT MOST 1048576: true; the input reads as it did. -/
def fnExactValidFaresUptoRow : OpenClaim := { program := "ytfnollbeeehpnaa", sum := "a40924568764a2587796435941160ebd1e3bdcdd723bd3ddd36269196d2e4606", func := "loop.example/g01057/laws.FnExactValidFares", spec := "fnExactValidFares", apart := false, narrowed := true }
def FnExactValidFaresUptoSaid : Prop := fnExactValidFaresUptoRow.holds Try.pinned (OpenSpec.upto fnExactValidFaresSpec)

/-- 'laws.FnExactCostOfEach', WHERE WHAT IT READS IS OF BULK AT MOST 1048576: true; the input reads as it did. -/
def fnExactCostOfEachUptoRow : OpenClaim := { program := "ytfnollbeeehpnaa", sum := "a40924568764a2587796435941160ebd1e3bdcdd723bd3ddd36269196d2e4606", func := "loop.example/g01057/laws.FnExactCostOfEach", spec := "fnExactCostOfEach", unfollowed := true, recurses := true, apart := false, narrowed := true }
def FnExactCostOfEachUptoSaid : Prop := fnExactCostOfEachUptoRow.holds Try.pinned (OpenSpec.upto fnExactCostOfEachSpec)

/-- 'laws.FnExactPayGroups', WHERE WHAT IT READS IS OF BULK AT MOST 1048576: true; the input reads as it did. -/
def fnExactPayGroupsUptoRow : OpenClaim := { program := "ytfnollbeeehpnaa", sum := "a40924568764a2587796435941160ebd1e3bdcdd723bd3ddd36269196d2e4606", func := "loop.example/g01057/laws.FnExactPayGroups", spec := "fnExactPayGroups", unfollowed := true, recurses := true, apart := false, narrowed := true }
def FnExactPayGroupsUptoSaid : Prop := fnExactPayGroupsUptoRow.holds Try.pinned (OpenSpec.upto fnExactPayGroupsSpec)

/-- 'laws.FnExactBreakEven', WHERE WHAT IT READS IS OF BULK AT MOST 1048576: true; the input reads as it did. -/
def fnExactBreakEvenUptoRow : OpenClaim := { program := "ytfnollbeeehpnaa", sum := "a40924568764a2587796435941160ebd1e3bdcdd723bd3ddd36269196d2e4606", func := "loop.example/g01057/laws.FnExactBreakEven", spec := "fnExactBreakEven", unfollowed := true, recurses := true, apart := false, narrowed := true }
def FnExactBreakEvenUptoSaid : Prop := fnExactBreakEvenUptoRow.holds Try.pinned (OpenSpec.upto fnExactBreakEvenSpec)

/-- 'laws.FnExactGroupCents', WHERE WHAT IT READS IS OF BULK AT MOST 1048576: true; the input reads as it did. -/
def fnExactGroupCentsUptoRow : OpenClaim := { program := "ytfnollbeeehpnaa", sum := "a40924568764a2587796435941160ebd1e3bdcdd723bd3ddd36269196d2e4606", func := "loop.example/g01057/laws.FnExactGroupCents", spec := "fnExactGroupCents", unfollowed := true, recurses := true, apart := false, narrowed := true }
def FnExactGroupCentsUptoSaid : Prop := fnExactGroupCentsUptoRow.holds Try.pinned (OpenSpec.upto fnExactGroupCentsSpec)

/-- 'laws.FnExactTicketLeft', WHERE WHAT IT READS IS OF BULK AT MOST 1048576: true; the input reads as it did. -/
def fnExactTicketLeftUptoRow : OpenClaim := { program := "ytfnollbeeehpnaa", sum := "a40924568764a2587796435941160ebd1e3bdcdd723bd3ddd36269196d2e4606", func := "loop.example/g01057/laws.FnExactTicketLeft", spec := "fnExactTicketLeft", unfollowed := true, recurses := true, apart := false, narrowed := true }
def FnExactTicketLeftUptoSaid : Prop := fnExactTicketLeftUptoRow.holds Try.pinned (OpenSpec.upto fnExactTicketLeftSpec)

/-- 'laws.FnExactUseTicket', WHERE WHAT IT READS IS OF BULK AT MOST 1048576: true; the input reads as it did. -/
def fnExactUseTicketUptoRow : OpenClaim := { program := "ytfnollbeeehpnaa", sum := "a40924568764a2587796435941160ebd1e3bdcdd723bd3ddd36269196d2e4606", func := "loop.example/g01057/laws.FnExactUseTicket", spec := "fnExactUseTicket", unfollowed := true, recurses := true, apart := false, narrowed := true }
def FnExactUseTicketUptoSaid : Prop := fnExactUseTicketUptoRow.holds Try.pinned (OpenSpec.upto fnExactUseTicketSpec)

end Rows
end Go.Proofs.Ytfnollbeeehpnaa
