/-
  DERIVED. GIVEN WITH THE SEED: THE CARDS: each row of YthmifcinlbcbjaaDoorRows.lean that lists a variable, with what it lists TIED to the program's text (the seventh form; the later family's looks); each row that meets fmt, with fmt's text TOLD by the authors' own Lean function (tested against real Go, not proved from fmt's source: count such statements apart). THE CARD IS WHAT COUNTS. Prove the row's statement (the work); the ties are given (YthmifcinlbcbjaaDoorTie.lean); close each card by the builder's one call (the guide's Derived/Test/ToyasCard.lean, 'card_holds'). Laid BY PROGRAM, IN A SANDBOX (cutbox-door.mjs). By AI agents, Wed Nov 11 2026. No macro, syntax, notation, axiom, sorry.
-/
import Derived.Test.YthmifcinlbcbjaaDoorRows
import GoSem.ClaimSeven
namespace Go.Proofs.YthmifcinlbcbjaaDoor
namespace Rows

/-- THE TIED CARD OF 'laws.FnExactRideText'. -/
def fnExactRideTextCard : Claim7 := { stood := { row := fnExactRideTextRow, standIns := [], harness := (true, "3a03b4c2c3a21bf26c91a8c223c566ff452b5756953bad27ab609ff741a9308a"), looks := false }, kinds := [], alts := [], laidByText := true, laidKinds := [.data, .data, .data], laidTests := true, laidLooks := .later }
def FnExactRideTextCardSaid : Prop := Claim7.holds Tryd.pinned (.plain (OpenSpec.ofChange fnExactRideTextSpec)) fnExactRideTextCard

/-- THE TIED CARD OF 'laws.FnExactBasinText'. -/
def fnExactBasinTextCard : Claim7 := { stood := { row := fnExactBasinTextRow, standIns := [], harness := (true, "3a03b4c2c3a21bf26c91a8c223c566ff452b5756953bad27ab609ff741a9308a"), looks := false }, kinds := [], alts := [], laidByText := true, laidKinds := [.data, .data, .data], laidTests := true, laidLooks := .later }
def FnExactBasinTextCardSaid : Prop := Claim7.holds Tryd.pinned (.plain (OpenSpec.ofChange fnExactBasinTextSpec)) fnExactBasinTextCard

/-- THE TIED CARD OF 'laws.FnExactFareText'. -/
def fnExactFareTextCard : Claim7 := { stood := { row := fnExactFareTextRow, standIns := [], harness := (true, "3a03b4c2c3a21bf26c91a8c223c566ff452b5756953bad27ab609ff741a9308a"), looks := false }, kinds := [], alts := [], laidByText := true, laidKinds := [.data, .data, .data], laidTests := true, laidLooks := .later }
def FnExactFareTextCardSaid : Prop := Claim7.holds Tryd.pinned (.plain (OpenSpec.ofChange fnExactFareTextSpec)) fnExactFareTextCard

/-- THE TIED CARD OF 'laws.FnExactGroupText'. -/
def fnExactGroupTextCard : Claim7 := { stood := { row := fnExactGroupTextRow, standIns := [], harness := (true, "3a03b4c2c3a21bf26c91a8c223c566ff452b5756953bad27ab609ff741a9308a"), looks := false }, kinds := [], alts := [], laidByText := true, laidKinds := [.data, .data, .data], laidTests := true, laidLooks := .later }
def FnExactGroupTextCardSaid : Prop := Claim7.holds Tryd.pinned (.plain (OpenSpec.ofChange fnExactGroupTextSpec)) fnExactGroupTextCard

/-- THE SECOND FORM's CARD OF 'laws.FnExactRideText'. -/
def fnExactRideTextUptoCard : Claim7 := { stood := { row := fnExactRideTextUptoRow, standIns := [], harness := (true, "3a03b4c2c3a21bf26c91a8c223c566ff452b5756953bad27ab609ff741a9308a"), looks := false }, kinds := [], alts := [], laidByText := true, laidKinds := [.data, .data, .data], laidTests := true, laidLooks := .later }
def FnExactRideTextUptoCardSaid : Prop := Claim7.holds Tryd.pinned (.plain (OpenSpec.upto fnExactRideTextSpec)) fnExactRideTextUptoCard

/-- THE SECOND FORM's CARD OF 'laws.FnExactBasinText'. -/
def fnExactBasinTextUptoCard : Claim7 := { stood := { row := fnExactBasinTextUptoRow, standIns := [], harness := (true, "3a03b4c2c3a21bf26c91a8c223c566ff452b5756953bad27ab609ff741a9308a"), looks := false }, kinds := [], alts := [], laidByText := true, laidKinds := [.data, .data, .data], laidTests := true, laidLooks := .later }
def FnExactBasinTextUptoCardSaid : Prop := Claim7.holds Tryd.pinned (.plain (OpenSpec.upto fnExactBasinTextSpec)) fnExactBasinTextUptoCard

/-- THE SECOND FORM's CARD OF 'laws.FnExactFareText'. -/
def fnExactFareTextUptoCard : Claim7 := { stood := { row := fnExactFareTextUptoRow, standIns := [], harness := (true, "3a03b4c2c3a21bf26c91a8c223c566ff452b5756953bad27ab609ff741a9308a"), looks := false }, kinds := [], alts := [], laidByText := true, laidKinds := [.data, .data, .data], laidTests := true, laidLooks := .later }
def FnExactFareTextUptoCardSaid : Prop := Claim7.holds Tryd.pinned (.plain (OpenSpec.upto fnExactFareTextSpec)) fnExactFareTextUptoCard

/-- THE SECOND FORM's CARD OF 'laws.FnExactGroupText'. -/
def fnExactGroupTextUptoCard : Claim7 := { stood := { row := fnExactGroupTextUptoRow, standIns := [], harness := (true, "3a03b4c2c3a21bf26c91a8c223c566ff452b5756953bad27ab609ff741a9308a"), looks := false }, kinds := [], alts := [], laidByText := true, laidKinds := [.data, .data, .data], laidTests := true, laidLooks := .later }
def FnExactGroupTextUptoCardSaid : Prop := Claim7.holds Tryd.pinned (.plain (OpenSpec.upto fnExactGroupTextSpec)) fnExactGroupTextUptoCard
end Rows
end Go.Proofs.YthmifcinlbcbjaaDoor
