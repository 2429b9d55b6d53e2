/-
  DERIVED. GIVEN WITH THE SEED: THE CARDS: each row of YthoimoenbccflaaDoorRows.lean that lists a variable, with what it lists TIED to the program's text (the seventh form; the later family's looks); each row that meets fmt, with fmt's text TOLD by the authors' own Lean function (tested against real Go, not proved from fmt's source: count such statements apart). THE CARD IS WHAT COUNTS. Prove the row's statement (the work); the ties are given (YthoimoenbccflaaDoorTie.lean); close each card by the builder's one call (the guide's Derived/Test/ToyasCard.lean, 'card_holds'). Laid BY PROGRAM, IN A SANDBOX (cutbox-door.mjs). By AI agents, Wed Nov 11 2026. No macro, syntax, notation, axiom, sorry.
-/
import Derived.Test.YthoimoenbccflaaDoorRows
import GoSem.ClaimSeven
namespace Go.Proofs.YthoimoenbccflaaDoor
namespace Rows

/-- THE TIED CARD OF 'laws.FnExactViewsOf'. -/
def fnExactViewsOfCard : Claim7 := { stood := { row := fnExactViewsOfRow, standIns := [], harness := (true, "449ac5cb0ae58c74726235b9fb4f533c25f2c811e876695daed7b3de44f04372"), looks := true }, kinds := [], alts := [], laidByText := true, laidKinds := [.data, .data, .data, .sentinel, .sentinel], laidTests := true, laidLooks := .later }
def FnExactViewsOfCardSaid : Prop := Claim7.holds Tryd.pinned (.plain (OpenSpec.ofChange fnExactViewsOfSpec)) fnExactViewsOfCard

/-- THE SECOND FORM's CARD OF 'laws.FnExactViewsOf'. -/
def fnExactViewsOfUptoCard : Claim7 := { stood := { row := fnExactViewsOfUptoRow, standIns := [], harness := (true, "449ac5cb0ae58c74726235b9fb4f533c25f2c811e876695daed7b3de44f04372"), looks := true }, kinds := [], alts := [], laidByText := true, laidKinds := [.data, .data, .data, .sentinel, .sentinel], laidTests := true, laidLooks := .later }
def FnExactViewsOfUptoCardSaid : Prop := Claim7.holds Tryd.pinned (.plain (OpenSpec.upto fnExactViewsOfSpec)) fnExactViewsOfUptoCard
end Rows
end Go.Proofs.YthoimoenbccflaaDoor
