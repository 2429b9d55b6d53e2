/-
  DERIVED. GIVEN WITH THE SEED: THE CARDS: each row of YtllmjhbopmkpoaaGreatDoorRows.lean that lists a variable, with what it lists TIED to the program's text (the seventh form; the later family's looks); each row that meets fmt, with fmt's text TOLD by the authors' own Lean function (tested against real Go, not proved from fmt's source: count such statements apart). THE CARD IS WHAT COUNTS. Prove the row's statement (the work); the ties are given (YtllmjhbopmkpoaaGreatDoorTie.lean); close each card by the builder's one call (the guide's Derived/Test/ToyasCard.lean, 'card_holds'). Laid BY PROGRAM, IN A SANDBOX (cutbox-door.mjs). By AI agents, Wed Nov 11 2026. No macro, syntax, notation, axiom, sorry.
-/
import Derived.Test.YtllmjhbopmkpoaaGreatDoorRows
import GoSem.ClaimSeven
namespace Go.Proofs.YtllmjhbopmkpoaaGreatDoor
namespace Rows

/-- THE TIED CARD OF 'laws.FnTermAlike'. -/
def fnTermAlikeCard : Claim7 := { stood := { row := fnTermAlikeRow, standIns := [], harness := (true, "7de5573da336acc7fc0f892f6c6f931fcb71b215e5f0c3f23ed5c9c28b10c568"), looks := true }, kinds := [], alts := [], laidByText := true, laidKinds := [.data, .data, .data, .sentinel], laidTests := true, laidLooks := .later }
def FnTermAlikeCardSaid : Prop := Claim7.holds Tryz.pinned (.plain (OpenSpec.ofChange fnTermAlikeSpec)) fnTermAlikeCard

/-- THE TIED CARD OF 'laws.FnBeta'. -/
def fnBetaCard : Claim7 := { stood := { row := fnBetaRow, standIns := [], harness := (true, "7de5573da336acc7fc0f892f6c6f931fcb71b215e5f0c3f23ed5c9c28b10c568"), looks := true }, kinds := [], alts := [], laidByText := true, laidKinds := [.data, .data, .data, .sentinel], laidTests := true, laidLooks := .later }
def FnBetaCardSaid : Prop := Claim7.holds Tryz.pinned (.plain (OpenSpec.ofChange fnBetaSpec)) fnBetaCard

/-- THE TIED CARD OF 'laws.FnMeaning'. -/
def fnMeaningCard : Claim7 := { stood := { row := fnMeaningRow, standIns := [], harness := (true, "7de5573da336acc7fc0f892f6c6f931fcb71b215e5f0c3f23ed5c9c28b10c568"), looks := true }, kinds := [], alts := [], laidByText := true, laidKinds := [.data, .data, .data, .sentinel, .sentinel, .sentinel], laidTests := true, laidLooks := .later }
def FnMeaningCardSaid : Prop := Claim7.holds Tryz.pinned (.plain (OpenSpec.ofChange fnMeaningSpec)) fnMeaningCard

/-- THE TIED CARD OF 'laws.FnDefinable'. -/
def fnDefinableCard : Claim7 := { stood := { row := fnDefinableRow, standIns := [], harness := (true, "7de5573da336acc7fc0f892f6c6f931fcb71b215e5f0c3f23ed5c9c28b10c568"), looks := true }, kinds := [], alts := [], laidByText := true, laidKinds := [.data, .data, .data, .sentinel, .sentinel, .sentinel], laidTests := true, laidLooks := .later }
def FnDefinableCardSaid : Prop := Claim7.holds Tryz.pinned (.plain (OpenSpec.ofChange fnDefinableSpec)) fnDefinableCard

/-- THE SECOND FORM's CARD OF 'laws.FnTermAlike'. -/
def fnTermAlikeUptoCard : Claim7 := { stood := { row := fnTermAlikeUptoRow, standIns := [], harness := (true, "7de5573da336acc7fc0f892f6c6f931fcb71b215e5f0c3f23ed5c9c28b10c568"), looks := true }, kinds := [], alts := [], laidByText := true, laidKinds := [.data, .data, .data, .sentinel], laidTests := true, laidLooks := .later }
def FnTermAlikeUptoCardSaid : Prop := Claim7.holds Tryz.pinned (.plain (OpenSpec.upto fnTermAlikeSpec)) fnTermAlikeUptoCard

/-- THE SECOND FORM's CARD OF 'laws.FnBeta'. -/
def fnBetaUptoCard : Claim7 := { stood := { row := fnBetaUptoRow, standIns := [], harness := (true, "7de5573da336acc7fc0f892f6c6f931fcb71b215e5f0c3f23ed5c9c28b10c568"), looks := true }, kinds := [], alts := [], laidByText := true, laidKinds := [.data, .data, .data, .sentinel], laidTests := true, laidLooks := .later }
def FnBetaUptoCardSaid : Prop := Claim7.holds Tryz.pinned (.plain (OpenSpec.upto fnBetaSpec)) fnBetaUptoCard

/-- THE SECOND FORM's CARD OF 'laws.FnMeaning'. -/
def fnMeaningUptoCard : Claim7 := { stood := { row := fnMeaningUptoRow, standIns := [], harness := (true, "7de5573da336acc7fc0f892f6c6f931fcb71b215e5f0c3f23ed5c9c28b10c568"), looks := true }, kinds := [], alts := [], laidByText := true, laidKinds := [.data, .data, .data, .sentinel, .sentinel, .sentinel], laidTests := true, laidLooks := .later }
def FnMeaningUptoCardSaid : Prop := Claim7.holds Tryz.pinned (.plain (OpenSpec.upto fnMeaningSpec)) fnMeaningUptoCard

/-- THE SECOND FORM's CARD OF 'laws.FnDefinable'. -/
def fnDefinableUptoCard : Claim7 := { stood := { row := fnDefinableUptoRow, standIns := [], harness := (true, "7de5573da336acc7fc0f892f6c6f931fcb71b215e5f0c3f23ed5c9c28b10c568"), looks := true }, kinds := [], alts := [], laidByText := true, laidKinds := [.data, .data, .data, .sentinel, .sentinel, .sentinel], laidTests := true, laidLooks := .later }
def FnDefinableUptoCardSaid : Prop := Claim7.holds Tryz.pinned (.plain (OpenSpec.upto fnDefinableSpec)) fnDefinableUptoCard
end Rows
end Go.Proofs.YtllmjhbopmkpoaaGreatDoor
