/-
  No cell of these rows narrows 'for every input' (looked for: loops, veiled, ifaces, maps, wideKeys, modest, calm, conditions, laid).
  DERIVED. THE GIVEN ROWS OF THIS SEAT. 3 by the template 'for every input the law returns true; each argument reads behind the call as it read before'; 0 by the template 'total and deterministic' (their statements: YtdecdlaopoglbaaTotals.lean).
  GIVEN WITH THE SEED: the statements are not yours to turn. If you find one false, say at which input.
  Laid BY PROGRAM, IN A SANDBOX (cutbox-rows.mjs): the forced cells as the released guide's own fill.sh prints them over the translation ed7f98f9a27f9474… (all of the seat's roots in one cut). By AI agents, Wed Nov 11 2026. No macro, syntax, notation, axiom, sorry.
-/
import Derived.Test.YtdecdlaopoglbaaChecked
import GoSem.Claim
import GoSem.ClaimJoined
import GoSem.ClaimMapViews
import Derived.JoinedTies
import Derived.KernelRfl
namespace Go.Proofs.Ytdecdlaopoglbaa
/- THE CELL 'sum', in the pinned program and in every row, IS THE sha256 OF THE DUMP (.gsa) THAT YtdecdlaopoglbaaProg.lean LOADS. Nothing in Lean hashes anything: it is a label: what it is worth is what the hold of that sum in a sandbox is worth. -/
noncomputable def Try.pinned : Pinned := { name := "ytdecdlaopoglbaa", sum := "ed7f98f9a27f9474992f1f586b30da04e2835a3b6e796a50fb00ccf486cb8ecf", checked := Try.checked }
namespace Rows
def none {H : Type} : Left H := { results := [], args := [] }

/-- 'laws.FnExactIncomeOf': WHATEVER THE INPUT: true; the input reads as it did. -/
def fnExactIncomeOfSpec : ChangeSpec := { name := "fnExactIncomeOf", fn := fun _ => fun
  | [d1, d2, d3, d4] => { results := [.lit (.bool true)], args := [d1, d2, d3, d4] }
  | _ => none }
def fnExactIncomeOfRow : OpenClaim := { program := "ytdecdlaopoglbaa", sum := "ed7f98f9a27f9474992f1f586b30da04e2835a3b6e796a50fb00ccf486cb8ecf", func := "loop.example/g01057/laws.FnExactIncomeOf", spec := "fnExactIncomeOf", unfollowed := true, recurses := true, apart := false }
def FnExactIncomeOfSaid : Prop := fnExactIncomeOfRow.holds Try.pinned (OpenSpec.ofChange fnExactIncomeOfSpec)

/-- ITS FALSE NEIGHBOUR: 'it returns false'. Refute it at one input. -/
def fnExactIncomeOfWrong : ChangeSpec := { name := "fnExactIncomeOf", fn := fun _ => fun
  | [d1, d2, d3, d4] => { results := [.lit (.bool false)], args := [d1, d2, d3, d4] }
  | _ => none }
def FnExactIncomeOfWrongFalsely : Prop := fnExactIncomeOfRow.holds Try.pinned (OpenSpec.ofChange fnExactIncomeOfWrong)

/-- 'laws.FnExactCheapestFares': WHATEVER THE INPUT: true; the input reads as it did. -/
def fnExactCheapestFaresSpec : ChangeSpec := { name := "fnExactCheapestFares", fn := fun _ => fun
  | [d1, d2] => { results := [.lit (.bool true)], args := [d1, d2] }
  | _ => none }
def fnExactCheapestFaresRow : OpenClaim := { program := "ytdecdlaopoglbaa", sum := "ed7f98f9a27f9474992f1f586b30da04e2835a3b6e796a50fb00ccf486cb8ecf", func := "loop.example/g01057/laws.FnExactCheapestFares", spec := "fnExactCheapestFares", unfollowed := true, recurses := true, apart := false }
def FnExactCheapestFaresSaid : Prop := fnExactCheapestFaresRow.holds Try.pinned (OpenSpec.ofChange fnExactCheapestFaresSpec)

/-- ITS FALSE NEIGHBOUR: 'it returns false'. Refute it at one input. -/
def fnExactCheapestFaresWrong : ChangeSpec := { name := "fnExactCheapestFares", fn := fun _ => fun
  | [d1, d2] => { results := [.lit (.bool false)], args := [d1, d2] }
  | _ => none }
def FnExactCheapestFaresWrongFalsely : Prop := fnExactCheapestFaresRow.holds Try.pinned (OpenSpec.ofChange fnExactCheapestFaresWrong)

/-- 'laws.FnExactExpiredOf': WHATEVER THE INPUT: true; the input reads as it did. -/
def fnExactExpiredOfSpec : ChangeSpec := { name := "fnExactExpiredOf", fn := fun _ => fun
  | [d1, d2, d3] => { results := [.lit (.bool true)], args := [d1, d2, d3] }
  | _ => none }
def fnExactExpiredOfRow : OpenClaim := { program := "ytdecdlaopoglbaa", sum := "ed7f98f9a27f9474992f1f586b30da04e2835a3b6e796a50fb00ccf486cb8ecf", func := "loop.example/g01057/laws.FnExactExpiredOf", spec := "fnExactExpiredOf", unfollowed := true, recurses := true, apart := false }
def FnExactExpiredOfSaid : Prop := fnExactExpiredOfRow.holds Try.pinned (OpenSpec.ofChange fnExactExpiredOfSpec)

/-- ITS FALSE NEIGHBOUR: 'it returns false'. Refute it at one input. -/
def fnExactExpiredOfWrong : ChangeSpec := { name := "fnExactExpiredOf", fn := fun _ => fun
  | [d1, d2, d3] => { results := [.lit (.bool false)], args := [d1, d2, d3] }
  | _ => none }
def FnExactExpiredOfWrongFalsely : Prop := fnExactExpiredOfRow.holds Try.pinned (OpenSpec.ofChange fnExactExpiredOfWrong)

/- THE SECOND FORM. 'bulk': how many values and letters a reading holds, each counted each time it is reached (what is shared counts as often as it is met; a slice's spare places count too). A statement '..UptoSaid' is the law's where the arguments, and the package variables that the reading takes, are together of bulk at most 1048576: NARROWER than '..Said'. Prove '..Said' where nothing that the law and all that it calls make is longer than what came in: it says more and counts as full. Else prove '..UptoSaid'. A law counts once. -/
mutual
def uptoBulk {H : Type} : DataW H → Nat
  | .lit (.string bytes) => bytes.length + 1
  | .lit _ => 1
  | .nil => 1
  | .ptr d => uptoBulk d + 1
  | .slice elems spare => uptoBulkAll elems + uptoBulkAll spare + 1
  | .agg parts => uptoBulkAll parts + 1
  | .iface _ d => uptoBulk d + 1
  | .map entries => uptoBulkEntries entries + 1
  | .held _ => 1
def uptoBulkAll {H : Type} : List (DataW H) → Nat
  | [] => 0
  | d :: r => uptoBulk d + uptoBulkAll r
def uptoBulkEntries {H : Type} : List (Lit × DataW H) → Nat
  | [] => 0
  | x :: r => uptoBulkEntry x + uptoBulkEntries r
def uptoBulkEntry {H : Type} : Lit × DataW H → Nat
  | (.string bytes, d) => bytes.length + uptoBulk d + 1
  | (_, d) => uptoBulk d + 1
 end
def uptoSmall : (H : Type) → List (DataW H) → Bool := fun _ ds => decide (uptoBulkAll ds ≤ 1048576)
def OpenSpec.upto (s : _root_.Go.ChangeSpec) : _root_.Go.OpenSpec := { _root_.Go.OpenSpec.ofChange s with cond := some uptoSmall }

/-- 'laws.FnExactIncomeOf', WHERE WHAT IT READS IS OF BULK AT MOST 1048576: true; the input reads as it did. -/
def fnExactIncomeOfUptoRow : OpenClaim := { program := "ytdecdlaopoglbaa", sum := "ed7f98f9a27f9474992f1f586b30da04e2835a3b6e796a50fb00ccf486cb8ecf", func := "loop.example/g01057/laws.FnExactIncomeOf", spec := "fnExactIncomeOf", unfollowed := true, recurses := true, apart := false, narrowed := true }
def FnExactIncomeOfUptoSaid : Prop := fnExactIncomeOfUptoRow.holds Try.pinned (OpenSpec.upto fnExactIncomeOfSpec)

/-- 'laws.FnExactCheapestFares', WHERE WHAT IT READS IS OF BULK AT MOST 1048576: true; the input reads as it did. -/
def fnExactCheapestFaresUptoRow : OpenClaim := { program := "ytdecdlaopoglbaa", sum := "ed7f98f9a27f9474992f1f586b30da04e2835a3b6e796a50fb00ccf486cb8ecf", func := "loop.example/g01057/laws.FnExactCheapestFares", spec := "fnExactCheapestFares", unfollowed := true, recurses := true, apart := false, narrowed := true }
def FnExactCheapestFaresUptoSaid : Prop := fnExactCheapestFaresUptoRow.holds Try.pinned (OpenSpec.upto fnExactCheapestFaresSpec)

/-- 'laws.FnExactExpiredOf', WHERE WHAT IT READS IS OF BULK AT MOST 1048576: true; the input reads as it did. -/
def fnExactExpiredOfUptoRow : OpenClaim := { program := "ytdecdlaopoglbaa", sum := "ed7f98f9a27f9474992f1f586b30da04e2835a3b6e796a50fb00ccf486cb8ecf", func := "loop.example/g01057/laws.FnExactExpiredOf", spec := "fnExactExpiredOf", unfollowed := true, recurses := true, apart := false, narrowed := true }
def FnExactExpiredOfUptoSaid : Prop := fnExactExpiredOfUptoRow.holds Try.pinned (OpenSpec.upto fnExactExpiredOfSpec)

end Rows
end Go.Proofs.Ytdecdlaopoglbaa
