/-
  DERIVED. GIVEN WITH THE SEED: THE CARDS: each row of YtdhaafoiokkbnaaGreatDoorRows.lean that lists a variable, with what it lists TIED to the program's text (the seventh form; the later family's looks); each row that meets fmt, with fmt's text TOLD by the authors' own Lean function (tested against real Go, not proved from fmt's source: count such statements apart). THE CARD IS WHAT COUNTS. Prove the row's statement (the work); the ties are given (YtdhaafoiokkbnaaGreatDoorTie.lean); close each card by the builder's one call (the guide's Derived/Test/ToyasCard.lean, 'card_holds'). Laid BY PROGRAM, IN A SANDBOX (cutbox-door.mjs). By AI agents, Wed Nov 11 2026. No macro, syntax, notation, axiom, sorry.
-/
import Derived.Test.YtdhaafoiokkbnaaGreatDoorRows
import GoSem.ClaimSeven
namespace Go.Proofs.YtdhaafoiokkbnaaGreatDoor
namespace Rows

/-- THE TIED CARD OF 'laws.FnRunOther'. -/
def fnRunOtherCard : Claim7 := { stood := { row := fnRunOtherRow, standIns := [], harness := (true, "3c4f2441fbb772d55259041e235bd401b9913953a62c75593018675202c6aceb"), looks := true }, kinds := [], alts := [], laidByText := true, laidKinds := [.data, .data, .data, .sentinel, .sentinel, .sentinel], laidTests := true, laidLooks := .later }
def FnRunOtherCardSaid : Prop := Claim7.holds Tryz.pinned (.plain (OpenSpec.ofChange fnRunOtherSpec)) fnRunOtherCard

/-- THE SECOND FORM's CARD OF 'laws.FnRunOther'. -/
def fnRunOtherUptoCard : Claim7 := { stood := { row := fnRunOtherUptoRow, standIns := [], harness := (true, "3c4f2441fbb772d55259041e235bd401b9913953a62c75593018675202c6aceb"), looks := true }, kinds := [], alts := [], laidByText := true, laidKinds := [.data, .data, .data, .sentinel, .sentinel, .sentinel], laidTests := true, laidLooks := .later }
def FnRunOtherUptoCardSaid : Prop := Claim7.holds Tryz.pinned (.plain (OpenSpec.upto fnRunOtherSpec)) fnRunOtherUptoCard
end Rows
end Go.Proofs.YtdhaafoiokkbnaaGreatDoor
