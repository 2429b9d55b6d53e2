/-
  DERIVED. GIVEN WITH THE SEED: THE CARDS: each row of YtnfenijemllkbaaGreatDoorRows.lean that lists a variable, with what it lists TIED to the program's text (the seventh form; the later family's looks); each row that meets fmt, with fmt's text TOLD by the authors' own Lean function (tested against real Go, not proved from fmt's source: count such statements apart). THE CARD IS WHAT COUNTS. Prove the row's statement (the work); the ties are given (YtnfenijemllkbaaGreatDoorTie.lean); close each card by the builder's one call (the guide's Derived/Test/ToyasCard.lean, 'card_holds'). Laid BY PROGRAM, IN A SANDBOX (cutbox-door.mjs). By AI agents, Wed Nov 11 2026. No macro, syntax, notation, axiom, sorry.
-/
import Derived.Test.YtnfenijemllkbaaGreatDoorRows
import GoSem.ClaimSeven
namespace Go.Proofs.YtnfenijemllkbaaGreatDoor
namespace Rows

/-- THE TIED CARD OF 'laws.FnExactTermRun'. -/
def fnExactTermRunCard : Claim7 := { stood := { row := fnExactTermRunRow, standIns := [], harness := (true, "dfc448e28909874126b0d29c72deeeedaf7b5f66595194ad19d4b96564cb17b2"), looks := true }, kinds := [], alts := [], laidByText := true, laidKinds := [.data, .data, .data, .sentinel, .sentinel, .sentinel], laidTests := true, laidLooks := .later }
def FnExactTermRunCardSaid : Prop := Claim7.holds Tryz.pinned (.plain (OpenSpec.ofChange fnExactTermRunSpec)) fnExactTermRunCard

/-- THE SECOND FORM's CARD OF 'laws.FnExactTermRun'. -/
def fnExactTermRunUptoCard : Claim7 := { stood := { row := fnExactTermRunUptoRow, standIns := [], harness := (true, "dfc448e28909874126b0d29c72deeeedaf7b5f66595194ad19d4b96564cb17b2"), looks := true }, kinds := [], alts := [], laidByText := true, laidKinds := [.data, .data, .data, .sentinel, .sentinel, .sentinel], laidTests := true, laidLooks := .later }
def FnExactTermRunUptoCardSaid : Prop := Claim7.holds Tryz.pinned (.plain (OpenSpec.upto fnExactTermRunSpec)) fnExactTermRunUptoCard
end Rows
end Go.Proofs.YtnfenijemllkbaaGreatDoor
