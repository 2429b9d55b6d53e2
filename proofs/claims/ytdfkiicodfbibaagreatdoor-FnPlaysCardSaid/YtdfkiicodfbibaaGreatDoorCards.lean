/-
  DERIVED. GIVEN WITH THE SEED: THE CARDS: each row of YtdfkiicodfbibaaGreatDoorRows.lean that lists a variable, with what it lists TIED to the program's text (the seventh form; the later family's looks); each row that meets fmt, with fmt's text TOLD by the authors' own Lean function (tested against real Go, not proved from fmt's source: count such statements apart). THE CARD IS WHAT COUNTS. Prove the row's statement (the work); the ties are given (YtdfkiicodfbibaaGreatDoorTie.lean); close each card by the builder's one call (the guide's Derived/Test/ToyasCard.lean, 'card_holds'). Laid BY PROGRAM, IN A SANDBOX (cutbox-door.mjs). By AI agents, Wed Nov 11 2026. No macro, syntax, notation, axiom, sorry.
-/
import Derived.Test.YtdfkiicodfbibaaGreatDoorRows
import GoSem.ClaimSeven
namespace Go.Proofs.YtdfkiicodfbibaaGreatDoor
namespace Rows

/-- THE TIED CARD OF 'laws.FnBelow'. -/
def fnBelowCard : Claim7 := { stood := { row := fnBelowRow, standIns := [], harness := (true, "c2ecf3279dc8ddade7a55cf32a603e66a2838b503ae86175dec7d5d6d3e3f50e"), looks := true }, kinds := [], alts := [], laidByText := true, laidKinds := [.data, .data, .data, .sentinel, .sentinel], laidTests := true, laidLooks := .later }
def FnBelowCardSaid : Prop := Claim7.holds Tryz.pinned (.plain (OpenSpec.ofChange fnBelowSpec)) fnBelowCard

/-- THE TIED CARD OF 'laws.FnExactStrategyFollows'. -/
def fnExactStrategyFollowsCard : Claim7 := { stood := { row := fnExactStrategyFollowsRow, standIns := [], harness := (true, "c2ecf3279dc8ddade7a55cf32a603e66a2838b503ae86175dec7d5d6d3e3f50e"), looks := true }, kinds := [], alts := [], laidByText := true, laidKinds := [.data, .data, .data, .sentinel, .sentinel], laidTests := true, laidLooks := .later }
def FnExactStrategyFollowsCardSaid : Prop := Claim7.holds Tryz.pinned (.plain (OpenSpec.ofChange fnExactStrategyFollowsSpec)) fnExactStrategyFollowsCard

/-- THE TIED CARD OF 'laws.FnRun'. -/
def fnRunCard : Claim7 := { stood := { row := fnRunRow, standIns := [], harness := (true, "c2ecf3279dc8ddade7a55cf32a603e66a2838b503ae86175dec7d5d6d3e3f50e"), looks := true }, kinds := [], alts := [], laidByText := true, laidKinds := [.data, .data, .data, .sentinel, .sentinel, .sentinel], laidTests := true, laidLooks := .later }
def FnRunCardSaid : Prop := Claim7.holds Tryz.pinned (.plain (OpenSpec.ofChange fnRunSpec)) fnRunCard

/-- THE TIED CARD OF 'laws.FnExactStrategyPlays'. -/
def fnExactStrategyPlaysCard : Claim7 := { stood := { row := fnExactStrategyPlaysRow, standIns := [], harness := (true, "c2ecf3279dc8ddade7a55cf32a603e66a2838b503ae86175dec7d5d6d3e3f50e"), looks := true }, kinds := [], alts := [], laidByText := true, laidKinds := [.data, .data, .data, .sentinel, .sentinel], laidTests := true, laidLooks := .later }
def FnExactStrategyPlaysCardSaid : Prop := Claim7.holds Tryz.pinned (.plain (OpenSpec.ofChange fnExactStrategyPlaysSpec)) fnExactStrategyPlaysCard

/-- THE TIED CARD OF 'laws.FnRunOther'. -/
def fnRunOtherCard : Claim7 := { stood := { row := fnRunOtherRow, standIns := [], harness := (true, "c2ecf3279dc8ddade7a55cf32a603e66a2838b503ae86175dec7d5d6d3e3f50e"), looks := true }, kinds := [], alts := [], laidByText := true, laidKinds := [.data, .data, .data, .sentinel, .sentinel, .sentinel], laidTests := true, laidLooks := .later }
def FnRunOtherCardSaid : Prop := Claim7.holds Tryz.pinned (.plain (OpenSpec.ofChange fnRunOtherSpec)) fnRunOtherCard

/-- THE TIED CARD OF 'laws.FnPlays'. -/
def fnPlaysCard : Claim7 := { stood := { row := fnPlaysRow, standIns := [], harness := (true, "c2ecf3279dc8ddade7a55cf32a603e66a2838b503ae86175dec7d5d6d3e3f50e"), looks := true }, kinds := [], alts := [], laidByText := true, laidKinds := [.data, .data, .data, .sentinel, .sentinel], laidTests := true, laidLooks := .later }
def FnPlaysCardSaid : Prop := Claim7.holds Tryz.pinned (.plain (OpenSpec.ofChange fnPlaysSpec)) fnPlaysCard

/-- THE TIED CARD OF 'laws.FnExactStrategyReply'. -/
def fnExactStrategyReplyCard : Claim7 := { stood := { row := fnExactStrategyReplyRow, standIns := [], harness := (true, "c2ecf3279dc8ddade7a55cf32a603e66a2838b503ae86175dec7d5d6d3e3f50e"), looks := true }, kinds := [], alts := [], laidByText := true, laidKinds := [.data, .data, .data, .sentinel, .sentinel], laidTests := true, laidLooks := .later }
def FnExactStrategyReplyCardSaid : Prop := Claim7.holds Tryz.pinned (.plain (OpenSpec.ofChange fnExactStrategyReplySpec)) fnExactStrategyReplyCard

/-- THE TIED CARD OF 'laws.FnFollows'. -/
def fnFollowsCard : Claim7 := { stood := { row := fnFollowsRow, standIns := [], harness := (true, "c2ecf3279dc8ddade7a55cf32a603e66a2838b503ae86175dec7d5d6d3e3f50e"), looks := true }, kinds := [], alts := [], laidByText := true, laidKinds := [.data, .data, .data, .sentinel, .sentinel], laidTests := true, laidLooks := .later }
def FnFollowsCardSaid : Prop := Claim7.holds Tryz.pinned (.plain (OpenSpec.ofChange fnFollowsSpec)) fnFollowsCard

/-- THE TIED CARD OF 'laws.FnReply'. -/
def fnReplyCard : Claim7 := { stood := { row := fnReplyRow, standIns := [], harness := (true, "c2ecf3279dc8ddade7a55cf32a603e66a2838b503ae86175dec7d5d6d3e3f50e"), looks := true }, kinds := [], alts := [], laidByText := true, laidKinds := [.data, .data, .data, .sentinel, .sentinel], laidTests := true, laidLooks := .later }
def FnReplyCardSaid : Prop := Claim7.holds Tryz.pinned (.plain (OpenSpec.ofChange fnReplySpec)) fnReplyCard

/-- THE TIED CARD OF 'laws.FnSmall'. -/
def fnSmallCard : Claim7 := { stood := { row := fnSmallRow, standIns := [], harness := (true, "c2ecf3279dc8ddade7a55cf32a603e66a2838b503ae86175dec7d5d6d3e3f50e"), looks := true }, kinds := [], alts := [], laidByText := true, laidKinds := [.data, .data, .data, .sentinel, .sentinel], laidTests := true, laidLooks := .later }
def FnSmallCardSaid : Prop := Claim7.holds Tryz.pinned (.plain (OpenSpec.ofChange fnSmallSpec)) fnSmallCard

/-- THE SECOND FORM's CARD OF 'laws.FnBelow'. -/
def fnBelowUptoCard : Claim7 := { stood := { row := fnBelowUptoRow, standIns := [], harness := (true, "c2ecf3279dc8ddade7a55cf32a603e66a2838b503ae86175dec7d5d6d3e3f50e"), looks := true }, kinds := [], alts := [], laidByText := true, laidKinds := [.data, .data, .data, .sentinel, .sentinel], laidTests := true, laidLooks := .later }
def FnBelowUptoCardSaid : Prop := Claim7.holds Tryz.pinned (.plain (OpenSpec.upto fnBelowSpec)) fnBelowUptoCard

/-- THE SECOND FORM's CARD OF 'laws.FnExactStrategyFollows'. -/
def fnExactStrategyFollowsUptoCard : Claim7 := { stood := { row := fnExactStrategyFollowsUptoRow, standIns := [], harness := (true, "c2ecf3279dc8ddade7a55cf32a603e66a2838b503ae86175dec7d5d6d3e3f50e"), looks := true }, kinds := [], alts := [], laidByText := true, laidKinds := [.data, .data, .data, .sentinel, .sentinel], laidTests := true, laidLooks := .later }
def FnExactStrategyFollowsUptoCardSaid : Prop := Claim7.holds Tryz.pinned (.plain (OpenSpec.upto fnExactStrategyFollowsSpec)) fnExactStrategyFollowsUptoCard

/-- THE SECOND FORM's CARD OF 'laws.FnRun'. -/
def fnRunUptoCard : Claim7 := { stood := { row := fnRunUptoRow, standIns := [], harness := (true, "c2ecf3279dc8ddade7a55cf32a603e66a2838b503ae86175dec7d5d6d3e3f50e"), looks := true }, kinds := [], alts := [], laidByText := true, laidKinds := [.data, .data, .data, .sentinel, .sentinel, .sentinel], laidTests := true, laidLooks := .later }
def FnRunUptoCardSaid : Prop := Claim7.holds Tryz.pinned (.plain (OpenSpec.upto fnRunSpec)) fnRunUptoCard

/-- THE SECOND FORM's CARD OF 'laws.FnExactStrategyPlays'. -/
def fnExactStrategyPlaysUptoCard : Claim7 := { stood := { row := fnExactStrategyPlaysUptoRow, standIns := [], harness := (true, "c2ecf3279dc8ddade7a55cf32a603e66a2838b503ae86175dec7d5d6d3e3f50e"), looks := true }, kinds := [], alts := [], laidByText := true, laidKinds := [.data, .data, .data, .sentinel, .sentinel], laidTests := true, laidLooks := .later }
def FnExactStrategyPlaysUptoCardSaid : Prop := Claim7.holds Tryz.pinned (.plain (OpenSpec.upto fnExactStrategyPlaysSpec)) fnExactStrategyPlaysUptoCard

/-- THE SECOND FORM's CARD OF 'laws.FnRunOther'. -/
def fnRunOtherUptoCard : Claim7 := { stood := { row := fnRunOtherUptoRow, standIns := [], harness := (true, "c2ecf3279dc8ddade7a55cf32a603e66a2838b503ae86175dec7d5d6d3e3f50e"), looks := true }, kinds := [], alts := [], laidByText := true, laidKinds := [.data, .data, .data, .sentinel, .sentinel, .sentinel], laidTests := true, laidLooks := .later }
def FnRunOtherUptoCardSaid : Prop := Claim7.holds Tryz.pinned (.plain (OpenSpec.upto fnRunOtherSpec)) fnRunOtherUptoCard

/-- THE SECOND FORM's CARD OF 'laws.FnPlays'. -/
def fnPlaysUptoCard : Claim7 := { stood := { row := fnPlaysUptoRow, standIns := [], harness := (true, "c2ecf3279dc8ddade7a55cf32a603e66a2838b503ae86175dec7d5d6d3e3f50e"), looks := true }, kinds := [], alts := [], laidByText := true, laidKinds := [.data, .data, .data, .sentinel, .sentinel], laidTests := true, laidLooks := .later }
def FnPlaysUptoCardSaid : Prop := Claim7.holds Tryz.pinned (.plain (OpenSpec.upto fnPlaysSpec)) fnPlaysUptoCard

/-- THE SECOND FORM's CARD OF 'laws.FnExactStrategyReply'. -/
def fnExactStrategyReplyUptoCard : Claim7 := { stood := { row := fnExactStrategyReplyUptoRow, standIns := [], harness := (true, "c2ecf3279dc8ddade7a55cf32a603e66a2838b503ae86175dec7d5d6d3e3f50e"), looks := true }, kinds := [], alts := [], laidByText := true, laidKinds := [.data, .data, .data, .sentinel, .sentinel], laidTests := true, laidLooks := .later }
def FnExactStrategyReplyUptoCardSaid : Prop := Claim7.holds Tryz.pinned (.plain (OpenSpec.upto fnExactStrategyReplySpec)) fnExactStrategyReplyUptoCard

/-- THE SECOND FORM's CARD OF 'laws.FnFollows'. -/
def fnFollowsUptoCard : Claim7 := { stood := { row := fnFollowsUptoRow, standIns := [], harness := (true, "c2ecf3279dc8ddade7a55cf32a603e66a2838b503ae86175dec7d5d6d3e3f50e"), looks := true }, kinds := [], alts := [], laidByText := true, laidKinds := [.data, .data, .data, .sentinel, .sentinel], laidTests := true, laidLooks := .later }
def FnFollowsUptoCardSaid : Prop := Claim7.holds Tryz.pinned (.plain (OpenSpec.upto fnFollowsSpec)) fnFollowsUptoCard

/-- THE SECOND FORM's CARD OF 'laws.FnReply'. -/
def fnReplyUptoCard : Claim7 := { stood := { row := fnReplyUptoRow, standIns := [], harness := (true, "c2ecf3279dc8ddade7a55cf32a603e66a2838b503ae86175dec7d5d6d3e3f50e"), looks := true }, kinds := [], alts := [], laidByText := true, laidKinds := [.data, .data, .data, .sentinel, .sentinel], laidTests := true, laidLooks := .later }
def FnReplyUptoCardSaid : Prop := Claim7.holds Tryz.pinned (.plain (OpenSpec.upto fnReplySpec)) fnReplyUptoCard

/-- THE SECOND FORM's CARD OF 'laws.FnSmall'. -/
def fnSmallUptoCard : Claim7 := { stood := { row := fnSmallUptoRow, standIns := [], harness := (true, "c2ecf3279dc8ddade7a55cf32a603e66a2838b503ae86175dec7d5d6d3e3f50e"), looks := true }, kinds := [], alts := [], laidByText := true, laidKinds := [.data, .data, .data, .sentinel, .sentinel], laidTests := true, laidLooks := .later }
def FnSmallUptoCardSaid : Prop := Claim7.holds Tryz.pinned (.plain (OpenSpec.upto fnSmallSpec)) fnSmallUptoCard
end Rows
end Go.Proofs.YtdfkiicodfbibaaGreatDoor
