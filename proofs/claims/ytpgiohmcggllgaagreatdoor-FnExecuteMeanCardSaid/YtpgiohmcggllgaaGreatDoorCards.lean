/-
  DERIVED. GIVEN WITH THE SEED: THE CARDS: each row of YtpgiohmcggllgaaGreatDoorRows.lean that lists a variable, with what it lists TIED to the program's text (the seventh form; the later family's looks); each row that meets fmt, with fmt's text TOLD by the authors' own Lean function (tested against real Go, not proved from fmt's source: count such statements apart). THE CARD IS WHAT COUNTS. Prove the row's statement (the work); the ties are given (YtpgiohmcggllgaaGreatDoorTie.lean); close each card by the builder's one call (the guide's Derived/Test/ToyasCard.lean, 'card_holds'). Laid BY PROGRAM, IN A SANDBOX (cutbox-door.mjs). By AI agents, Wed Nov 11 2026. No macro, syntax, notation, axiom, sorry.
-/
import Derived.Test.YtpgiohmcggllgaaGreatDoorRows
import GoSem.ClaimSeven
namespace Go.Proofs.YtpgiohmcggllgaaGreatDoor
namespace Rows

/-- THE TIED CARD OF 'laws.FnExecuteMean'. -/
def fnExecuteMeanCard : Claim7 := { stood := { row := fnExecuteMeanRow, standIns := [], harness := (true, "8e9ce6d4afb382c319c4dea74f077d65b75547ffac7aedffd9d430715ba697f8"), looks := true }, kinds := [], alts := [], laidByText := true, laidKinds := [.data, .data, .data, .data, .sentinel, .sentinel, .sentinel, .pinned], laidTests := true, laidLooks := .later }
def FnExecuteMeanCardSaid : Prop := Claim7.holds Tryz.pinned (.plain (OpenSpec.ofChange fnExecuteMeanSpec)) fnExecuteMeanCard

/-- THE SECOND FORM's CARD OF 'laws.FnExecuteMean'. -/
def fnExecuteMeanUptoCard : Claim7 := { stood := { row := fnExecuteMeanUptoRow, standIns := [], harness := (true, "8e9ce6d4afb382c319c4dea74f077d65b75547ffac7aedffd9d430715ba697f8"), looks := true }, kinds := [], alts := [], laidByText := true, laidKinds := [.data, .data, .data, .data, .sentinel, .sentinel, .sentinel, .pinned], laidTests := true, laidLooks := .later }
def FnExecuteMeanUptoCardSaid : Prop := Claim7.holds Tryz.pinned (.plain (OpenSpec.upto fnExecuteMeanSpec)) fnExecuteMeanUptoCard
end Rows
end Go.Proofs.YtpgiohmcggllgaaGreatDoor
