/-
  DERIVED. GIVEN WITH THE SEED: THE CARDS: each row of YtjoomijbbiageaaDoorRows.lean that lists a variable, with what it lists TIED to the program's text (the seventh form; the later family's looks); each row that meets fmt, with fmt's text TOLD by the authors' own Lean function (tested against real Go, not proved from fmt's source: count such statements apart). THE CARD IS WHAT COUNTS. Prove the row's statement (the work); the ties are given (YtjoomijbbiageaaDoorTie.lean); close each card by the builder's one call (the guide's Derived/Test/ToyasCard.lean, 'card_holds'). Laid BY PROGRAM, IN A SANDBOX (cutbox-door.mjs). By AI agents, Wed Nov 11 2026. No macro, syntax, notation, axiom, sorry.
-/
import Derived.Test.YtjoomijbbiageaaDoorRows
import GoSem.ClaimSeven
namespace Go.Proofs.YtjoomijbbiageaaDoor
namespace Rows

/-- THE TIED CARD OF 'laws.FnExactTicketText'. -/
def fnExactTicketTextCard : Claim7 := { stood := { row := fnExactTicketTextRow, standIns := [], harness := (true, "7e7af5594c912226fd9704625a46a3f5e5624e35bb995e75c63c0ab9e25965e9"), looks := false }, kinds := [], alts := [], laidByText := true, laidKinds := [.data, .data, .data], laidTests := true, laidLooks := .later }
def FnExactTicketTextCardSaid : Prop := Claim7.holds Tryd.pinned (.plain (OpenSpec.ofChange fnExactTicketTextSpec)) fnExactTicketTextCard

/-- THE SECOND FORM's CARD OF 'laws.FnExactTicketText'. -/
def fnExactTicketTextUptoCard : Claim7 := { stood := { row := fnExactTicketTextUptoRow, standIns := [], harness := (true, "7e7af5594c912226fd9704625a46a3f5e5624e35bb995e75c63c0ab9e25965e9"), looks := false }, kinds := [], alts := [], laidByText := true, laidKinds := [.data, .data, .data], laidTests := true, laidLooks := .later }
def FnExactTicketTextUptoCardSaid : Prop := Claim7.holds Tryd.pinned (.plain (OpenSpec.upto fnExactTicketTextSpec)) fnExactTicketTextUptoCard
end Rows
end Go.Proofs.YtjoomijbbiageaaDoor
