/-
  No cell of these rows narrows 'for every input' (looked for: loops, veiled, ifaces, maps, wideKeys, modest, calm, conditions, laid).
  DERIVED. THE GIVEN ROWS OF THIS SEAT. 10 by the template 'for every input the law returns true; each argument reads behind the call as it read before'; 0 by the template 'total and deterministic' (their statements: YtkloolhngddpiaaTotals.lean).
  GIVEN WITH THE SEED: the statements are not yours to turn. If you find one false, say at which input.
  Laid BY PROGRAM, IN A SANDBOX (cutbox-rows.mjs): the forced cells as the released guide's own fill.sh prints them over the translation e8e958f136eaaf9d… (all of the seat's roots in one cut). By AI agents, Wed Nov 11 2026. No macro, syntax, notation, axiom, sorry.
-/
import Derived.Test.YtkloolhngddpiaaChecked
import GoSem.Claim
import GoSem.ClaimJoined
import GoSem.ClaimMapViews
import Derived.JoinedTies
import Derived.KernelRfl
namespace Go.Proofs.Ytkloolhngddpiaa
/- THE CELL 'sum', in the pinned program and in every row, IS THE sha256 OF THE DUMP (.gsa) THAT YtkloolhngddpiaaProg.lean LOADS. Nothing in Lean hashes anything: it is a label: what it is worth is what the hold of that sum in a sandbox is worth. -/
noncomputable def Try.pinned : Pinned := { name := "ytkloolhngddpiaa", sum := "e8e958f136eaaf9d2a4bde3a5f6c5bfd7b579f4f05fcafed678994bbe761dad7", checked := Try.checked }
namespace Rows
def none {H : Type} : Left H := { results := [], args := [] }

/-- 'laws.FnExactIncomeOf': WHATEVER THE INPUT: true; the input reads as it did. -/
def fnExactIncomeOfSpec : ChangeSpec := { name := "fnExactIncomeOf", fn := fun _ => fun
  | [d1, d2, d3, d4] => { results := [.lit (.bool true)], args := [d1, d2, d3, d4] }
  | _ => none }
def fnExactIncomeOfRow : OpenClaim := { program := "ytkloolhngddpiaa", sum := "e8e958f136eaaf9d2a4bde3a5f6c5bfd7b579f4f05fcafed678994bbe761dad7", func := "loop.example/g01057/laws.FnExactIncomeOf", spec := "fnExactIncomeOf", unfollowed := true, recurses := true, apart := false }
def FnExactIncomeOfSaid : Prop := fnExactIncomeOfRow.holds Try.pinned (OpenSpec.ofChange fnExactIncomeOfSpec)

/-- ITS FALSE NEIGHBOUR: 'it returns false'. Refute it at one input. -/
def fnExactIncomeOfWrong : ChangeSpec := { name := "fnExactIncomeOf", fn := fun _ => fun
  | [d1, d2, d3, d4] => { results := [.lit (.bool false)], args := [d1, d2, d3, d4] }
  | _ => none }
def FnExactIncomeOfWrongFalsely : Prop := fnExactIncomeOfRow.holds Try.pinned (OpenSpec.ofChange fnExactIncomeOfWrong)

/-- 'laws.FnExactCheapestFares': WHATEVER THE INPUT: true; the input reads as it did. -/
def fnExactCheapestFaresSpec : ChangeSpec := { name := "fnExactCheapestFares", fn := fun _ => fun
  | [d1, d2] => { results := [.lit (.bool true)], args := [d1, d2] }
  | _ => none }
def fnExactCheapestFaresRow : OpenClaim := { program := "ytkloolhngddpiaa", sum := "e8e958f136eaaf9d2a4bde3a5f6c5bfd7b579f4f05fcafed678994bbe761dad7", func := "loop.example/g01057/laws.FnExactCheapestFares", spec := "fnExactCheapestFares", unfollowed := true, recurses := true, apart := false }
def FnExactCheapestFaresSaid : Prop := fnExactCheapestFaresRow.holds Try.pinned (OpenSpec.ofChange fnExactCheapestFaresSpec)

/-- ITS FALSE NEIGHBOUR: 'it returns false'. Refute it at one input. -/
def fnExactCheapestFaresWrong : ChangeSpec := { name := "fnExactCheapestFares", fn := fun _ => fun
  | [d1, d2] => { results := [.lit (.bool false)], args := [d1, d2] }
  | _ => none }
def FnExactCheapestFaresWrongFalsely : Prop := fnExactCheapestFaresRow.holds Try.pinned (OpenSpec.ofChange fnExactCheapestFaresWrong)

/-- 'laws.FnExactExpiredOf': WHATEVER THE INPUT: true; the input reads as it did. -/
def fnExactExpiredOfSpec : ChangeSpec := { name := "fnExactExpiredOf", fn := fun _ => fun
  | [d1, d2, d3] => { results := [.lit (.bool true)], args := [d1, d2, d3] }
  | _ => none }
def fnExactExpiredOfRow : OpenClaim := { program := "ytkloolhngddpiaa", sum := "e8e958f136eaaf9d2a4bde3a5f6c5bfd7b579f4f05fcafed678994bbe761dad7", func := "loop.example/g01057/laws.FnExactExpiredOf", spec := "fnExactExpiredOf", unfollowed := true, recurses := true, apart := false }
def FnExactExpiredOfSaid : Prop := fnExactExpiredOfRow.holds Try.pinned (OpenSpec.ofChange fnExactExpiredOfSpec)

/-- ITS FALSE NEIGHBOUR: 'it returns false'. Refute it at one input. -/
def fnExactExpiredOfWrong : ChangeSpec := { name := "fnExactExpiredOf", fn := fun _ => fun
  | [d1, d2, d3] => { results := [.lit (.bool false)], args := [d1, d2, d3] }
  | _ => none }
def FnExactExpiredOfWrongFalsely : Prop := fnExactExpiredOfRow.holds Try.pinned (OpenSpec.ofChange fnExactExpiredOfWrong)

/-- 'laws.FnExactMovesOf': WHATEVER THE INPUT: true; the input reads as it did. -/
def fnExactMovesOfSpec : ChangeSpec := { name := "fnExactMovesOf", fn := fun _ => fun
  | [d] => { results := [.lit (.bool true)], args := [d] }
  | _ => none }
def fnExactMovesOfRow : OpenClaim := { program := "ytkloolhngddpiaa", sum := "e8e958f136eaaf9d2a4bde3a5f6c5bfd7b579f4f05fcafed678994bbe761dad7", func := "loop.example/g01057/laws.FnExactMovesOf", spec := "fnExactMovesOf", apart := false }
def FnExactMovesOfSaid : Prop := fnExactMovesOfRow.holds Try.pinned (OpenSpec.ofChange fnExactMovesOfSpec)

/-- ITS FALSE NEIGHBOUR: 'it returns false'. Refute it at one input. -/
def fnExactMovesOfWrong : ChangeSpec := { name := "fnExactMovesOf", fn := fun _ => fun
  | [d] => { results := [.lit (.bool false)], args := [d] }
  | _ => none }
def FnExactMovesOfWrongFalsely : Prop := fnExactMovesOfRow.holds Try.pinned (OpenSpec.ofChange fnExactMovesOfWrong)

/-- 'laws.FnExactStateMoves': WHATEVER THE INPUT: true; the input reads as it did. -/
def fnExactStateMovesSpec : ChangeSpec := { name := "fnExactStateMoves", fn := fun _ => fun
  | [d] => { results := [.lit (.bool true)], args := [d] }
  | _ => none }
def fnExactStateMovesRow : OpenClaim := { program := "ytkloolhngddpiaa", sum := "e8e958f136eaaf9d2a4bde3a5f6c5bfd7b579f4f05fcafed678994bbe761dad7", func := "loop.example/g01057/laws.FnExactStateMoves", spec := "fnExactStateMoves", apart := false }
def FnExactStateMovesSaid : Prop := fnExactStateMovesRow.holds Try.pinned (OpenSpec.ofChange fnExactStateMovesSpec)

/-- ITS FALSE NEIGHBOUR: 'it returns false'. Refute it at one input. -/
def fnExactStateMovesWrong : ChangeSpec := { name := "fnExactStateMoves", fn := fun _ => fun
  | [d] => { results := [.lit (.bool false)], args := [d] }
  | _ => none }
def FnExactStateMovesWrongFalsely : Prop := fnExactStateMovesRow.holds Try.pinned (OpenSpec.ofChange fnExactStateMovesWrong)

/-- 'laws.FnExactReachedStates': WHATEVER THE INPUT: true; the input reads as it did. -/
def fnExactReachedStatesSpec : ChangeSpec := { name := "fnExactReachedStates", fn := fun _ => fun
  | [d] => { results := [.lit (.bool true)], args := [d] }
  | _ => none }
def fnExactReachedStatesRow : OpenClaim := { program := "ytkloolhngddpiaa", sum := "e8e958f136eaaf9d2a4bde3a5f6c5bfd7b579f4f05fcafed678994bbe761dad7", func := "loop.example/g01057/laws.FnExactReachedStates", spec := "fnExactReachedStates", apart := false }
def FnExactReachedStatesSaid : Prop := fnExactReachedStatesRow.holds Try.pinned (OpenSpec.ofChange fnExactReachedStatesSpec)

/-- ITS FALSE NEIGHBOUR: 'it returns false'. Refute it at one input. -/
def fnExactReachedStatesWrong : ChangeSpec := { name := "fnExactReachedStates", fn := fun _ => fun
  | [d] => { results := [.lit (.bool false)], args := [d] }
  | _ => none }
def FnExactReachedStatesWrongFalsely : Prop := fnExactReachedStatesRow.holds Try.pinned (OpenSpec.ofChange fnExactReachedStatesWrong)

/-- 'laws.FnExactFewestToRide': WHATEVER THE INPUT: true; the input reads as it did. -/
def fnExactFewestToRideSpec : ChangeSpec := { name := "fnExactFewestToRide", fn := fun _ => fun
  | [d] => { results := [.lit (.bool true)], args := [d] }
  | _ => none }
def fnExactFewestToRideRow : OpenClaim := { program := "ytkloolhngddpiaa", sum := "e8e958f136eaaf9d2a4bde3a5f6c5bfd7b579f4f05fcafed678994bbe761dad7", func := "loop.example/g01057/laws.FnExactFewestToRide", spec := "fnExactFewestToRide", apart := false }
def FnExactFewestToRideSaid : Prop := fnExactFewestToRideRow.holds Try.pinned (OpenSpec.ofChange fnExactFewestToRideSpec)

/-- ITS FALSE NEIGHBOUR: 'it returns false'. Refute it at one input. -/
def fnExactFewestToRideWrong : ChangeSpec := { name := "fnExactFewestToRide", fn := fun _ => fun
  | [d] => { results := [.lit (.bool false)], args := [d] }
  | _ => none }
def FnExactFewestToRideWrongFalsely : Prop := fnExactFewestToRideRow.holds Try.pinned (OpenSpec.ofChange fnExactFewestToRideWrong)

/-- 'laws.FnExactWayTo': WHATEVER THE INPUT: true; the input reads as it did. -/
def fnExactWayToSpec : ChangeSpec := { name := "fnExactWayTo", fn := fun _ => fun
  | [d1, d2] => { results := [.lit (.bool true)], args := [d1, d2] }
  | _ => none }
def fnExactWayToRow : OpenClaim := { program := "ytkloolhngddpiaa", sum := "e8e958f136eaaf9d2a4bde3a5f6c5bfd7b579f4f05fcafed678994bbe761dad7", func := "loop.example/g01057/laws.FnExactWayTo", spec := "fnExactWayTo", unfollowed := true, recurses := true, apart := false }
def FnExactWayToSaid : Prop := fnExactWayToRow.holds Try.pinned (OpenSpec.ofChange fnExactWayToSpec)

/-- ITS FALSE NEIGHBOUR: 'it returns false'. Refute it at one input. -/
def fnExactWayToWrong : ChangeSpec := { name := "fnExactWayTo", fn := fun _ => fun
  | [d1, d2] => { results := [.lit (.bool false)], args := [d1, d2] }
  | _ => none }
def FnExactWayToWrongFalsely : Prop := fnExactWayToRow.holds Try.pinned (OpenSpec.ofChange fnExactWayToWrong)

/-- 'laws.FnExactDeadStates': WHATEVER THE INPUT: true; the input reads as it did. -/
def fnExactDeadStatesSpec : ChangeSpec := { name := "fnExactDeadStates", fn := fun _ => fun
  | [d] => { results := [.lit (.bool true)], args := [d] }
  | _ => none }
def fnExactDeadStatesRow : OpenClaim := { program := "ytkloolhngddpiaa", sum := "e8e958f136eaaf9d2a4bde3a5f6c5bfd7b579f4f05fcafed678994bbe761dad7", func := "loop.example/g01057/laws.FnExactDeadStates", spec := "fnExactDeadStates", unfollowed := true, recurses := true, apart := false }
def FnExactDeadStatesSaid : Prop := fnExactDeadStatesRow.holds Try.pinned (OpenSpec.ofChange fnExactDeadStatesSpec)

/-- ITS FALSE NEIGHBOUR: 'it returns false'. Refute it at one input. -/
def fnExactDeadStatesWrong : ChangeSpec := { name := "fnExactDeadStates", fn := fun _ => fun
  | [d] => { results := [.lit (.bool false)], args := [d] }
  | _ => none }
def FnExactDeadStatesWrongFalsely : Prop := fnExactDeadStatesRow.holds Try.pinned (OpenSpec.ofChange fnExactDeadStatesWrong)

/-- 'laws.FnChecker': WHATEVER THE INPUT: true; the input reads as it did. -/
def fnCheckerSpec : ChangeSpec := { name := "fnChecker", fn := fun _ => fun
  | [d1, d2] => { results := [.lit (.bool true)], args := [d1, d2] }
  | _ => none }
def fnCheckerRow : OpenClaim := { program := "ytkloolhngddpiaa", sum := "e8e958f136eaaf9d2a4bde3a5f6c5bfd7b579f4f05fcafed678994bbe761dad7", func := "loop.example/g01057/laws.FnChecker", spec := "fnChecker", unfollowed := true, recurses := true, apart := false }
def FnCheckerSaid : Prop := fnCheckerRow.holds Try.pinned (OpenSpec.ofChange fnCheckerSpec)

/-- ITS FALSE NEIGHBOUR: 'it returns false'. Refute it at one input. -/
def fnCheckerWrong : ChangeSpec := { name := "fnChecker", fn := fun _ => fun
  | [d1, d2] => { results := [.lit (.bool false)], args := [d1, d2] }
  | _ => none }
def FnCheckerWrongFalsely : Prop := fnCheckerRow.holds Try.pinned (OpenSpec.ofChange fnCheckerWrong)

/- THE SECOND FORM. 'bulk': how many values and letters a reading holds, each counted each time it is reached (what is shared counts as often as it is met; a slice's spare places count too). A statement '..UptoSaid' is the law's where the arguments, and the package variables that the reading takes, are together of bulk at most 1048576: NARROWER than '..Said'. Prove '..Said' where nothing that the law and all that it calls make is longer than what came in: it says more and counts as full. Else prove '..UptoSaid'. A law counts once. -/
mutual
def uptoBulk {H : Type} : DataW H → Nat
  | .lit (.string bytes) => bytes.length + 1
  | .lit _ => 1
  | .nil => 1
  | .ptr d => uptoBulk d + 1
  | .slice elems spare => uptoBulkAll elems + uptoBulkAll spare + 1
  | .agg parts => uptoBulkAll parts + 1
  | .iface _ d => uptoBulk d + 1
  | .map entries => uptoBulkEntries entries + 1
  | .held _ => 1
def uptoBulkAll {H : Type} : List (DataW H) → Nat
  | [] => 0
  | d :: r => uptoBulk d + uptoBulkAll r
def uptoBulkEntries {H : Type} : List (Lit × DataW H) → Nat
  | [] => 0
  | x :: r => uptoBulkEntry x + uptoBulkEntries r
def uptoBulkEntry {H : Type} : Lit × DataW H → Nat
  | (.string bytes, d) => bytes.length + uptoBulk d + 1
  | (_, d) => uptoBulk d + 1
 end
def uptoSmall : (H : Type) → List (DataW H) → Bool := fun _ ds => decide (uptoBulkAll ds ≤ 1048576)
def OpenSpec.upto (s : _root_.Go.ChangeSpec) : _root_.Go.OpenSpec := { _root_.Go.OpenSpec.ofChange s with cond := some uptoSmall }

/-- 'laws.FnExactIncomeOf', WHERE WHAT IT READS IS OF BULK AT MOST 1048576: true; the input reads as it did. -/
def fnExactIncomeOfUptoRow : OpenClaim := { program := "ytkloolhngddpiaa", sum := "e8e958f136eaaf9d2a4bde3a5f6c5bfd7b579f4f05fcafed678994bbe761dad7", func := "loop.example/g01057/laws.FnExactIncomeOf", spec := "fnExactIncomeOf", unfollowed := true, recurses := true, apart := false, narrowed := true }
def FnExactIncomeOfUptoSaid : Prop := fnExactIncomeOfUptoRow.holds Try.pinned (OpenSpec.upto fnExactIncomeOfSpec)

/-- 'laws.FnExactCheapestFares', WHERE WHAT IT READS IS OF BULK AT MOST 1048576: true; the input reads as it did. -/
def fnExactCheapestFaresUptoRow : OpenClaim := { program := "ytkloolhngddpiaa", sum := "e8e958f136eaaf9d2a4bde3a5f6c5bfd7b579f4f05fcafed678994bbe761dad7", func := "loop.example/g01057/laws.FnExactCheapestFares", spec := "fnExactCheapestFares", unfollowed := true, recurses := true, apart := false, narrowed := true }
def FnExactCheapestFaresUptoSaid : Prop := fnExactCheapestFaresUptoRow.holds Try.pinned (OpenSpec.upto fnExactCheapestFaresSpec)

/-- 'laws.FnExactExpiredOf', WHERE WHAT IT READS IS OF BULK AT MOST 1048576: true; the input reads as it did. -/
def fnExactExpiredOfUptoRow : OpenClaim := { program := "ytkloolhngddpiaa", sum := "e8e958f136eaaf9d2a4bde3a5f6c5bfd7b579f4f05fcafed678994bbe761dad7", func := "loop.example/g01057/laws.FnExactExpiredOf", spec := "fnExactExpiredOf", unfollowed := true, recurses := true, apart := false, narrowed := true }
def FnExactExpiredOfUptoSaid : Prop := fnExactExpiredOfUptoRow.holds Try.pinned (OpenSpec.upto fnExactExpiredOfSpec)

/-- 'laws.FnExactMovesOf', WHERE WHAT IT READS IS OF BULK AT MOST 1048576: true; the input reads as it did. -/
def fnExactMovesOfUptoRow : OpenClaim := { program := "ytkloolhngddpiaa", sum := "e8e958f136eaaf9d2a4bde3a5f6c5bfd7b579f4f05fcafed678994bbe761dad7", func := "loop.example/g01057/laws.FnExactMovesOf", spec := "fnExactMovesOf", apart := false, narrowed := true }
def FnExactMovesOfUptoSaid : Prop := fnExactMovesOfUptoRow.holds Try.pinned (OpenSpec.upto fnExactMovesOfSpec)

/-- 'laws.FnExactStateMoves', WHERE WHAT IT READS IS OF BULK AT MOST 1048576: true; the input reads as it did. -/
def fnExactStateMovesUptoRow : OpenClaim := { program := "ytkloolhngddpiaa", sum := "e8e958f136eaaf9d2a4bde3a5f6c5bfd7b579f4f05fcafed678994bbe761dad7", func := "loop.example/g01057/laws.FnExactStateMoves", spec := "fnExactStateMoves", apart := false, narrowed := true }
def FnExactStateMovesUptoSaid : Prop := fnExactStateMovesUptoRow.holds Try.pinned (OpenSpec.upto fnExactStateMovesSpec)

/-- 'laws.FnExactReachedStates', WHERE WHAT IT READS IS OF BULK AT MOST 1048576: true; the input reads as it did. -/
def fnExactReachedStatesUptoRow : OpenClaim := { program := "ytkloolhngddpiaa", sum := "e8e958f136eaaf9d2a4bde3a5f6c5bfd7b579f4f05fcafed678994bbe761dad7", func := "loop.example/g01057/laws.FnExactReachedStates", spec := "fnExactReachedStates", apart := false, narrowed := true }
def FnExactReachedStatesUptoSaid : Prop := fnExactReachedStatesUptoRow.holds Try.pinned (OpenSpec.upto fnExactReachedStatesSpec)

/-- 'laws.FnExactFewestToRide', WHERE WHAT IT READS IS OF BULK AT MOST 1048576: true; the input reads as it did. -/
def fnExactFewestToRideUptoRow : OpenClaim := { program := "ytkloolhngddpiaa", sum := "e8e958f136eaaf9d2a4bde3a5f6c5bfd7b579f4f05fcafed678994bbe761dad7", func := "loop.example/g01057/laws.FnExactFewestToRide", spec := "fnExactFewestToRide", apart := false, narrowed := true }
def FnExactFewestToRideUptoSaid : Prop := fnExactFewestToRideUptoRow.holds Try.pinned (OpenSpec.upto fnExactFewestToRideSpec)

/-- 'laws.FnExactWayTo', WHERE WHAT IT READS IS OF BULK AT MOST 1048576: true; the input reads as it did. -/
def fnExactWayToUptoRow : OpenClaim := { program := "ytkloolhngddpiaa", sum := "e8e958f136eaaf9d2a4bde3a5f6c5bfd7b579f4f05fcafed678994bbe761dad7", func := "loop.example/g01057/laws.FnExactWayTo", spec := "fnExactWayTo", unfollowed := true, recurses := true, apart := false, narrowed := true }
def FnExactWayToUptoSaid : Prop := fnExactWayToUptoRow.holds Try.pinned (OpenSpec.upto fnExactWayToSpec)

/-- 'laws.FnExactDeadStates', WHERE WHAT IT READS IS OF BULK AT MOST 1048576: true; the input reads as it did. -/
def fnExactDeadStatesUptoRow : OpenClaim := { program := "ytkloolhngddpiaa", sum := "e8e958f136eaaf9d2a4bde3a5f6c5bfd7b579f4f05fcafed678994bbe761dad7", func := "loop.example/g01057/laws.FnExactDeadStates", spec := "fnExactDeadStates", unfollowed := true, recurses := true, apart := false, narrowed := true }
def FnExactDeadStatesUptoSaid : Prop := fnExactDeadStatesUptoRow.holds Try.pinned (OpenSpec.upto fnExactDeadStatesSpec)

/-- 'laws.FnChecker', WHERE WHAT IT READS IS OF BULK AT MOST 1048576: true; the input reads as it did. -/
def fnCheckerUptoRow : OpenClaim := { program := "ytkloolhngddpiaa", sum := "e8e958f136eaaf9d2a4bde3a5f6c5bfd7b579f4f05fcafed678994bbe761dad7", func := "loop.example/g01057/laws.FnChecker", spec := "fnChecker", unfollowed := true, recurses := true, apart := false, narrowed := true }
def FnCheckerUptoSaid : Prop := fnCheckerUptoRow.holds Try.pinned (OpenSpec.upto fnCheckerSpec)

end Rows
end Go.Proofs.Ytkloolhngddpiaa
