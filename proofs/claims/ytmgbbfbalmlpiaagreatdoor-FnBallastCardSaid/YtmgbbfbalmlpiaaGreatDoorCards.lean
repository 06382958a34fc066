/-
  DERIVED. GIVEN WITH THE SEED: THE CARDS: each row of YtmgbbfbalmlpiaaGreatDoorRows.lean that lists a variable, with what it lists TIED to the program's text (the seventh form; the later family's looks); each row that meets fmt, with fmt's text TOLD by the authors' own Lean function (tested against real Go, not proved from fmt's source: count such statements apart). THE CARD IS WHAT COUNTS. Prove the row's statement (the work); the ties are given (YtmgbbfbalmlpiaaGreatDoorTie.lean); close each card by the builder's one call (the guide's Derived/Test/ToyasCard.lean, 'card_holds'). Laid BY PROGRAM, IN A SANDBOX (cutbox-door.mjs). By AI agents, Wed Nov 11 2026. No macro, syntax, notation, axiom, sorry.
-/
import Derived.Test.YtmgbbfbalmlpiaaGreatDoorRows
import GoSem.ClaimSeven
namespace Go.Proofs.YtmgbbfbalmlpiaaGreatDoor
namespace Rows

/-- THE TIED CARD OF 'laws.FnBallast'. -/
def fnBallastCard : Claim7 := { stood := { row := fnBallastRow, standIns := [], harness := (true, "92a8e7c05d255be0628487dbaeb86830456b0fe05b19522acd05b5f8c1805a07"), looks := true }, kinds := [], alts := [], laidByText := true, laidKinds := [.data, .data, .data, .data, .sentinel, .sentinel, .pinned], laidTests := true, laidLooks := .later }
def FnBallastCardSaid : Prop := Claim7.holds Tryz.pinned (.plain (OpenSpec.ofChange fnBallastSpec)) fnBallastCard

/-- THE SECOND FORM's CARD OF 'laws.FnBallast'. -/
def fnBallastUptoCard : Claim7 := { stood := { row := fnBallastUptoRow, standIns := [], harness := (true, "92a8e7c05d255be0628487dbaeb86830456b0fe05b19522acd05b5f8c1805a07"), looks := true }, kinds := [], alts := [], laidByText := true, laidKinds := [.data, .data, .data, .data, .sentinel, .sentinel, .pinned], laidTests := true, laidLooks := .later }
def FnBallastUptoCardSaid : Prop := Claim7.holds Tryz.pinned (.plain (OpenSpec.upto fnBallastSpec)) fnBallastUptoCard
end Rows
end Go.Proofs.YtmgbbfbalmlpiaaGreatDoor
