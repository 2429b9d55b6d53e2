/-
  DERIVED. GIVEN WITH THE SEED: THE CARDS: each row of YtapjaflnmklmeaaGreatDoorRows.lean that lists a variable, with what it lists TIED to the program's text (the seventh form; the later family's looks); each row that meets fmt, with fmt's text TOLD by the authors' own Lean function (tested against real Go, not proved from fmt's source: count such statements apart). THE CARD IS WHAT COUNTS. Prove the row's statement (the work); the ties are given (YtapjaflnmklmeaaGreatDoorTie.lean); close each card by the builder's one call (the guide's Derived/Test/ToyasCard.lean, 'card_holds'). Laid BY PROGRAM, IN A SANDBOX (cutbox-door.mjs). By AI agents, Wed Nov 11 2026. No macro, syntax, notation, axiom, sorry.
-/
import Derived.Test.YtapjaflnmklmeaaGreatDoorRows
import GoSem.ClaimSeven
namespace Go.Proofs.YtapjaflnmklmeaaGreatDoor
namespace Rows

/-- THE TIED CARD OF 'laws.FnExactTermStrategy'. -/
def fnExactTermStrategyCard : Claim7 := { stood := { row := fnExactTermStrategyRow, standIns := [], harness := (true, "36a415c41b575ebbc71906de7be45798d2e42050e2ef4df142ee652985bf78ab"), looks := true }, kinds := [], alts := [], laidByText := true, laidKinds := [.data, .data, .data, .sentinel], laidTests := true, laidLooks := .later }
def FnExactTermStrategyCardSaid : Prop := Claim7.holds Tryz.pinned (.plain (OpenSpec.ofChange fnExactTermStrategySpec)) fnExactTermStrategyCard

/-- THE TIED CARD OF 'laws.FnExactTermAlike'. -/
def fnExactTermAlikeCard : Claim7 := { stood := { row := fnExactTermAlikeRow, standIns := [], harness := (true, "36a415c41b575ebbc71906de7be45798d2e42050e2ef4df142ee652985bf78ab"), looks := true }, kinds := [], alts := [], laidByText := true, laidKinds := [.data, .data, .data, .sentinel], laidTests := true, laidLooks := .later }
def FnExactTermAlikeCardSaid : Prop := Claim7.holds Tryz.pinned (.plain (OpenSpec.ofChange fnExactTermAlikeSpec)) fnExactTermAlikeCard

/-- THE SECOND FORM's CARD OF 'laws.FnExactTermStrategy'. -/
def fnExactTermStrategyUptoCard : Claim7 := { stood := { row := fnExactTermStrategyUptoRow, standIns := [], harness := (true, "36a415c41b575ebbc71906de7be45798d2e42050e2ef4df142ee652985bf78ab"), looks := true }, kinds := [], alts := [], laidByText := true, laidKinds := [.data, .data, .data, .sentinel], laidTests := true, laidLooks := .later }
def FnExactTermStrategyUptoCardSaid : Prop := Claim7.holds Tryz.pinned (.plain (OpenSpec.upto fnExactTermStrategySpec)) fnExactTermStrategyUptoCard

/-- THE SECOND FORM's CARD OF 'laws.FnExactTermAlike'. -/
def fnExactTermAlikeUptoCard : Claim7 := { stood := { row := fnExactTermAlikeUptoRow, standIns := [], harness := (true, "36a415c41b575ebbc71906de7be45798d2e42050e2ef4df142ee652985bf78ab"), looks := true }, kinds := [], alts := [], laidByText := true, laidKinds := [.data, .data, .data, .sentinel], laidTests := true, laidLooks := .later }
def FnExactTermAlikeUptoCardSaid : Prop := Claim7.holds Tryz.pinned (.plain (OpenSpec.upto fnExactTermAlikeSpec)) fnExactTermAlikeUptoCard
end Rows
end Go.Proofs.YtapjaflnmklmeaaGreatDoor
