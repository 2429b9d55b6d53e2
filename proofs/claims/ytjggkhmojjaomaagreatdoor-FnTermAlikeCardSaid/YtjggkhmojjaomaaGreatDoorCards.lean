/-
  DERIVED. GIVEN WITH THE SEED: THE CARDS: each row of YtjggkhmojjaomaaGreatDoorRows.lean that lists a variable, with what it lists TIED to the program's text (the seventh form; the later family's looks); each row that meets fmt, with fmt's text TOLD by the authors' own Lean function (tested against real Go, not proved from fmt's source: count such statements apart). THE CARD IS WHAT COUNTS. Prove the row's statement (the work); the ties are given (YtjggkhmojjaomaaGreatDoorTie.lean); close each card by the builder's one call (the guide's Derived/Test/ToyasCard.lean, 'card_holds'). Laid BY PROGRAM, IN A SANDBOX (cutbox-door.mjs). By AI agents, Wed Nov 11 2026. No macro, syntax, notation, axiom, sorry.
-/
import Derived.Test.YtjggkhmojjaomaaGreatDoorRows
import GoSem.ClaimSeven
namespace Go.Proofs.YtjggkhmojjaomaaGreatDoor
namespace Rows

/-- THE TIED CARD OF 'laws.FnBeta'. -/
def fnBetaCard : Claim7 := { stood := { row := fnBetaRow, standIns := [], harness := (true, "b5c10357445d42f80f863cd988c69b73d39088320a72c1d3679e0766b03ca520"), looks := true }, kinds := [], alts := [], laidByText := true, laidKinds := [.data, .data, .data, .sentinel], laidTests := true, laidLooks := .later }
def FnBetaCardSaid : Prop := Claim7.holds Tryz.pinned (.plain (OpenSpec.ofChange fnBetaSpec)) fnBetaCard

/-- THE TIED CARD OF 'laws.FnTermAlike'. -/
def fnTermAlikeCard : Claim7 := { stood := { row := fnTermAlikeRow, standIns := [], harness := (true, "b5c10357445d42f80f863cd988c69b73d39088320a72c1d3679e0766b03ca520"), looks := true }, kinds := [], alts := [], laidByText := true, laidKinds := [.data, .data, .data, .sentinel], laidTests := true, laidLooks := .later }
def FnTermAlikeCardSaid : Prop := Claim7.holds Tryz.pinned (.plain (OpenSpec.ofChange fnTermAlikeSpec)) fnTermAlikeCard

/-- THE SECOND FORM's CARD OF 'laws.FnBeta'. -/
def fnBetaUptoCard : Claim7 := { stood := { row := fnBetaUptoRow, standIns := [], harness := (true, "b5c10357445d42f80f863cd988c69b73d39088320a72c1d3679e0766b03ca520"), looks := true }, kinds := [], alts := [], laidByText := true, laidKinds := [.data, .data, .data, .sentinel], laidTests := true, laidLooks := .later }
def FnBetaUptoCardSaid : Prop := Claim7.holds Tryz.pinned (.plain (OpenSpec.upto fnBetaSpec)) fnBetaUptoCard

/-- THE SECOND FORM's CARD OF 'laws.FnTermAlike'. -/
def fnTermAlikeUptoCard : Claim7 := { stood := { row := fnTermAlikeUptoRow, standIns := [], harness := (true, "b5c10357445d42f80f863cd988c69b73d39088320a72c1d3679e0766b03ca520"), looks := true }, kinds := [], alts := [], laidByText := true, laidKinds := [.data, .data, .data, .sentinel], laidTests := true, laidLooks := .later }
def FnTermAlikeUptoCardSaid : Prop := Claim7.holds Tryz.pinned (.plain (OpenSpec.upto fnTermAlikeSpec)) fnTermAlikeUptoCard
end Rows
end Go.Proofs.YtjggkhmojjaomaaGreatDoor
