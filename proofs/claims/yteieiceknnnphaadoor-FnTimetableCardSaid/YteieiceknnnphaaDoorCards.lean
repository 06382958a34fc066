/-
  DERIVED. GIVEN WITH THE SEED: THE CARDS: each row of YteieiceknnnphaaDoorRows.lean that lists a variable, with what it lists TIED to the program's text (the seventh form; the later family's looks); each row that meets fmt, with fmt's text TOLD by the authors' own Lean function (tested against real Go, not proved from fmt's source: count such statements apart). THE CARD IS WHAT COUNTS. Prove the row's statement (the work); the ties are given (YteieiceknnnphaaDoorTie.lean); close each card by the builder's one call (the guide's Derived/Test/ToyasCard.lean, 'card_holds'). Laid BY PROGRAM, IN A SANDBOX (cutbox-door.mjs). By AI agents, Wed Nov 11 2026. No macro, syntax, notation, axiom, sorry.
-/
import Derived.Test.YteieiceknnnphaaDoorRows
import GoSem.ClaimSeven
namespace Go.Proofs.YteieiceknnnphaaDoor
namespace Rows

/-- THE TIED CARD OF 'laws.FnTimetable'. -/
def fnTimetableCard : Claim7 := { stood := { row := fnTimetableRow, standIns := [], harness := (true, "cf1282ec96f703340c86a46b417cee65fc7f1a9119bed3a3c7d9cfd0216d6495"), looks := true }, kinds := [], alts := [], laidByText := true, laidKinds := [.data, .data, .data, .sentinel, .sentinel], laidTests := true, laidLooks := .later }
def FnTimetableCardSaid : Prop := Claim7.holds Tryd.pinned (.plain (OpenSpec.ofChange fnTimetableSpec)) fnTimetableCard

/-- THE SECOND FORM's CARD OF 'laws.FnTimetable'. -/
def fnTimetableUptoCard : Claim7 := { stood := { row := fnTimetableUptoRow, standIns := [], harness := (true, "cf1282ec96f703340c86a46b417cee65fc7f1a9119bed3a3c7d9cfd0216d6495"), looks := true }, kinds := [], alts := [], laidByText := true, laidKinds := [.data, .data, .data, .sentinel, .sentinel], laidTests := true, laidLooks := .later }
def FnTimetableUptoCardSaid : Prop := Claim7.holds Tryd.pinned (.plain (OpenSpec.upto fnTimetableSpec)) fnTimetableUptoCard
end Rows
end Go.Proofs.YteieiceknnnphaaDoor
