/-
  DERIVED. GIVEN WITH THE SEED: THE CARDS: each row of YtjgajablgddkcaaDoorRows.lean that lists a variable, with what it lists TIED to the program's text (the seventh form; the later family's looks); each row that meets fmt, with fmt's text TOLD by the authors' own Lean function (tested against real Go, not proved from fmt's source: count such statements apart). THE CARD IS WHAT COUNTS. Prove the row's statement (the work); the ties are given (YtjgajablgddkcaaDoorTie.lean); close each card by the builder's one call (the guide's Derived/Test/ToyasCard.lean, 'card_holds'). Laid BY PROGRAM, IN A SANDBOX (cutbox-door.mjs). By AI agents, Wed Nov 11 2026. No macro, syntax, notation, axiom, sorry.
-/
import Derived.Test.YtjgajablgddkcaaDoorRows
import GoSem.ClaimSeven
namespace Go.Proofs.YtjgajablgddkcaaDoor
namespace Rows

/-- THE TIED CARD OF 'laws.FnExactReadRide'. -/
def fnExactReadRideCard : Claim7 := { stood := { row := fnExactReadRideRow, standIns := [], harness := (true, "00116f0e97c4ab3d7a25d63cfb6b4217da5d630f1e2b8bc027320e6b4ff08aca"), looks := true }, kinds := [], alts := [], laidByText := true, laidKinds := [.data, .data, .data, .sentinel, .sentinel], laidTests := true, laidLooks := .later }
def FnExactReadRideCardSaid : Prop := Claim7.holds Tryd.pinned (.plain (OpenSpec.ofChange fnExactReadRideSpec)) fnExactReadRideCard

/-- THE TIED CARD OF 'laws.FnExactReadBasin'. -/
def fnExactReadBasinCard : Claim7 := { stood := { row := fnExactReadBasinRow, standIns := [], harness := (true, "00116f0e97c4ab3d7a25d63cfb6b4217da5d630f1e2b8bc027320e6b4ff08aca"), looks := true }, kinds := [], alts := [], laidByText := true, laidKinds := [.data, .data, .data, .data, .sentinel, .sentinel, .pinned], laidTests := true, laidLooks := .later }
def FnExactReadBasinCardSaid : Prop := Claim7.holds Tryd.pinned (.plain (OpenSpec.ofChange fnExactReadBasinSpec)) fnExactReadBasinCard

/-- THE TIED CARD OF 'laws.FnExactReadGroup'. -/
def fnExactReadGroupCard : Claim7 := { stood := { row := fnExactReadGroupRow, standIns := [], harness := (true, "00116f0e97c4ab3d7a25d63cfb6b4217da5d630f1e2b8bc027320e6b4ff08aca"), looks := true }, kinds := [], alts := [], laidByText := true, laidKinds := [.data, .data, .data, .data, .sentinel, .sentinel, .pinned], laidTests := true, laidLooks := .later }
def FnExactReadGroupCardSaid : Prop := Claim7.holds Tryd.pinned (.plain (OpenSpec.ofChange fnExactReadGroupSpec)) fnExactReadGroupCard

/-- THE TIED CARD OF 'laws.FnExactReadFare'. -/
def fnExactReadFareCard : Claim7 := { stood := { row := fnExactReadFareRow, standIns := [], harness := (true, "00116f0e97c4ab3d7a25d63cfb6b4217da5d630f1e2b8bc027320e6b4ff08aca"), looks := true }, kinds := [], alts := [], laidByText := true, laidKinds := [.data, .data, .data, .data, .sentinel, .sentinel, .pinned], laidTests := true, laidLooks := .later }
def FnExactReadFareCardSaid : Prop := Claim7.holds Tryd.pinned (.plain (OpenSpec.ofChange fnExactReadFareSpec)) fnExactReadFareCard

/-- THE SECOND FORM's CARD OF 'laws.FnExactReadRide'. -/
def fnExactReadRideUptoCard : Claim7 := { stood := { row := fnExactReadRideUptoRow, standIns := [], harness := (true, "00116f0e97c4ab3d7a25d63cfb6b4217da5d630f1e2b8bc027320e6b4ff08aca"), looks := true }, kinds := [], alts := [], laidByText := true, laidKinds := [.data, .data, .data, .sentinel, .sentinel], laidTests := true, laidLooks := .later }
def FnExactReadRideUptoCardSaid : Prop := Claim7.holds Tryd.pinned (.plain (OpenSpec.upto fnExactReadRideSpec)) fnExactReadRideUptoCard

/-- THE SECOND FORM's CARD OF 'laws.FnExactReadBasin'. -/
def fnExactReadBasinUptoCard : Claim7 := { stood := { row := fnExactReadBasinUptoRow, standIns := [], harness := (true, "00116f0e97c4ab3d7a25d63cfb6b4217da5d630f1e2b8bc027320e6b4ff08aca"), looks := true }, kinds := [], alts := [], laidByText := true, laidKinds := [.data, .data, .data, .data, .sentinel, .sentinel, .pinned], laidTests := true, laidLooks := .later }
def FnExactReadBasinUptoCardSaid : Prop := Claim7.holds Tryd.pinned (.plain (OpenSpec.upto fnExactReadBasinSpec)) fnExactReadBasinUptoCard

/-- THE SECOND FORM's CARD OF 'laws.FnExactReadGroup'. -/
def fnExactReadGroupUptoCard : Claim7 := { stood := { row := fnExactReadGroupUptoRow, standIns := [], harness := (true, "00116f0e97c4ab3d7a25d63cfb6b4217da5d630f1e2b8bc027320e6b4ff08aca"), looks := true }, kinds := [], alts := [], laidByText := true, laidKinds := [.data, .data, .data, .data, .sentinel, .sentinel, .pinned], laidTests := true, laidLooks := .later }
def FnExactReadGroupUptoCardSaid : Prop := Claim7.holds Tryd.pinned (.plain (OpenSpec.upto fnExactReadGroupSpec)) fnExactReadGroupUptoCard

/-- THE SECOND FORM's CARD OF 'laws.FnExactReadFare'. -/
def fnExactReadFareUptoCard : Claim7 := { stood := { row := fnExactReadFareUptoRow, standIns := [], harness := (true, "00116f0e97c4ab3d7a25d63cfb6b4217da5d630f1e2b8bc027320e6b4ff08aca"), looks := true }, kinds := [], alts := [], laidByText := true, laidKinds := [.data, .data, .data, .data, .sentinel, .sentinel, .pinned], laidTests := true, laidLooks := .later }
def FnExactReadFareUptoCardSaid : Prop := Claim7.holds Tryd.pinned (.plain (OpenSpec.upto fnExactReadFareSpec)) fnExactReadFareUptoCard
end Rows
end Go.Proofs.YtjgajablgddkcaaDoor
