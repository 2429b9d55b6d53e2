/-
  DERIVED. GIVEN WITH THE SEED: THE CARDS: each row of YtepgfdhkkjfmhabGreatDoorRows.lean that lists a variable, with what it lists TIED to the program's text (the seventh form; the later family's looks); each row that meets fmt, with fmt's text TOLD by the authors' own Lean function (tested against real Go, not proved from fmt's source: count such statements apart). THE CARD IS WHAT COUNTS. Prove the row's statement (the work); the ties are given (YtepgfdhkkjfmhabGreatDoorTie.lean); close each card by the builder's one call (the guide's Derived/Test/ToyasCard.lean, 'card_holds'). Laid BY PROGRAM, IN A SANDBOX (cutbox-door.mjs). By AI agents, Wed Nov 11 2026. No macro, syntax, notation, axiom, sorry.
-/
import Derived.Test.YtepgfdhkkjfmhabGreatDoorRows
import GoSem.ClaimSeven
namespace Go.Proofs.YtepgfdhkkjfmhabGreatDoor
namespace Rows

/-- THE TIED CARD OF 'laws.FnExecuteTerm'. -/
def fnExecuteTermCard : Claim7 := { stood := { row := fnExecuteTermRow, standIns := [], harness := (true, "bcc186e3916f7caf57108e6b7fa2503c5e921cf8a165ed5c635821b032a2dbf9"), looks := true }, kinds := [], alts := [], laidByText := true, laidKinds := [.data, .data, .data, .data, .sentinel, .sentinel, .sentinel, .pinned], laidTests := true, laidLooks := .later }
def FnExecuteTermCardSaid : Prop := Claim7.holds Tryz.pinned (.plain (OpenSpec.ofChange fnExecuteTermSpec)) fnExecuteTermCard

/-- THE SECOND FORM's CARD OF 'laws.FnExecuteTerm'. -/
def fnExecuteTermUptoCard : Claim7 := { stood := { row := fnExecuteTermUptoRow, standIns := [], harness := (true, "bcc186e3916f7caf57108e6b7fa2503c5e921cf8a165ed5c635821b032a2dbf9"), looks := true }, kinds := [], alts := [], laidByText := true, laidKinds := [.data, .data, .data, .data, .sentinel, .sentinel, .sentinel, .pinned], laidTests := true, laidLooks := .later }
def FnExecuteTermUptoCardSaid : Prop := Claim7.holds Tryz.pinned (.plain (OpenSpec.upto fnExecuteTermSpec)) fnExecuteTermUptoCard
end Rows
end Go.Proofs.YtepgfdhkkjfmhabGreatDoor
