/-
  DERIVED. GIVEN WITH THE SEED: THE CARDS: each row of YtjmklkhdemolmaaGreatDoorRows.lean that lists a variable, with what it lists TIED to the program's text (the seventh form; the later family's looks); each row that meets fmt, with fmt's text TOLD by the authors' own Lean function (tested against real Go, not proved from fmt's source: count such statements apart). THE CARD IS WHAT COUNTS. Prove the row's statement (the work); the ties are given (YtjmklkhdemolmaaGreatDoorTie.lean); close each card by the builder's one call (the guide's Derived/Test/ToyasCard.lean, 'card_holds'). Laid BY PROGRAM, IN A SANDBOX (cutbox-door.mjs). By AI agents, Wed Nov 11 2026. No macro, syntax, notation, axiom, sorry.
-/
import Derived.Test.YtjmklkhdemolmaaGreatDoorRows
import GoSem.ClaimSeven
namespace Go.Proofs.YtjmklkhdemolmaaGreatDoor
namespace Rows

/-- THE TIED CARD OF 'laws.FnTrips'. -/
def fnTripsCard : Claim7 := { stood := { row := fnTripsRow, standIns := [], harness := (true, "217a4a83d34766d0d71bb7fbcdcbe215d3af0b8ea8bc4939ff4ff40d154fc714"), looks := true }, kinds := [], alts := [], laidByText := true, laidKinds := [.data, .data, .data, .data, .sentinel, .sentinel, .pinned], laidTests := true, laidLooks := .later }
def FnTripsCardSaid : Prop := Claim7.holds Tryz.pinned (.plain (OpenSpec.ofChange fnTripsSpec)) fnTripsCard

/-- THE SECOND FORM's CARD OF 'laws.FnTrips'. -/
def fnTripsUptoCard : Claim7 := { stood := { row := fnTripsUptoRow, standIns := [], harness := (true, "217a4a83d34766d0d71bb7fbcdcbe215d3af0b8ea8bc4939ff4ff40d154fc714"), looks := true }, kinds := [], alts := [], laidByText := true, laidKinds := [.data, .data, .data, .data, .sentinel, .sentinel, .pinned], laidTests := true, laidLooks := .later }
def FnTripsUptoCardSaid : Prop := Claim7.holds Tryz.pinned (.plain (OpenSpec.upto fnTripsSpec)) fnTripsUptoCard
end Rows
end Go.Proofs.YtjmklkhdemolmaaGreatDoor
