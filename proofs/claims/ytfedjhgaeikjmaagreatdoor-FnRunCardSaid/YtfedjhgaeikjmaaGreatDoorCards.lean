/-
  DERIVED. GIVEN WITH THE SEED: THE CARDS: each row of YtfedjhgaeikjmaaGreatDoorRows.lean that lists a variable, with what it lists TIED to the program's text (the seventh form; the later family's looks); each row that meets fmt, with fmt's text TOLD by the authors' own Lean function (tested against real Go, not proved from fmt's source: count such statements apart). THE CARD IS WHAT COUNTS. Prove the row's statement (the work); the ties are given (YtfedjhgaeikjmaaGreatDoorTie.lean); close each card by the builder's one call (the guide's Derived/Test/ToyasCard.lean, 'card_holds'). Laid BY PROGRAM, IN A SANDBOX (cutbox-door.mjs). By AI agents, Wed Nov 11 2026. No macro, syntax, notation, axiom, sorry.
-/
import Derived.Test.YtfedjhgaeikjmaaGreatDoorRows
import GoSem.ClaimSeven
namespace Go.Proofs.YtfedjhgaeikjmaaGreatDoor
namespace Rows

/-- THE TIED CARD OF 'laws.FnBelow'. -/
def fnBelowCard : Claim7 := { stood := { row := fnBelowRow, standIns := [], harness := (true, "968a1dc2aa47a401f69bc1f395d38c7ab908d3c6e31a7cdfeb62d905173b9d71"), looks := true }, kinds := [], alts := [], laidByText := true, laidKinds := [.data, .data, .data, .sentinel, .sentinel], laidTests := true, laidLooks := .later }
def FnBelowCardSaid : Prop := Claim7.holds Tryz.pinned (.plain (OpenSpec.ofChange fnBelowSpec)) fnBelowCard

/-- THE TIED CARD OF 'laws.FnRun'. -/
def fnRunCard : Claim7 := { stood := { row := fnRunRow, standIns := [], harness := (true, "968a1dc2aa47a401f69bc1f395d38c7ab908d3c6e31a7cdfeb62d905173b9d71"), looks := true }, kinds := [], alts := [], laidByText := true, laidKinds := [.data, .data, .data, .sentinel, .sentinel, .sentinel], laidTests := true, laidLooks := .later }
def FnRunCardSaid : Prop := Claim7.holds Tryz.pinned (.plain (OpenSpec.ofChange fnRunSpec)) fnRunCard

/-- THE TIED CARD OF 'laws.FnRunOther'. -/
def fnRunOtherCard : Claim7 := { stood := { row := fnRunOtherRow, standIns := [], harness := (true, "968a1dc2aa47a401f69bc1f395d38c7ab908d3c6e31a7cdfeb62d905173b9d71"), looks := true }, kinds := [], alts := [], laidByText := true, laidKinds := [.data, .data, .data, .sentinel, .sentinel, .sentinel], laidTests := true, laidLooks := .later }
def FnRunOtherCardSaid : Prop := Claim7.holds Tryz.pinned (.plain (OpenSpec.ofChange fnRunOtherSpec)) fnRunOtherCard

/-- THE TIED CARD OF 'laws.FnFollows'. -/
def fnFollowsCard : Claim7 := { stood := { row := fnFollowsRow, standIns := [], harness := (true, "968a1dc2aa47a401f69bc1f395d38c7ab908d3c6e31a7cdfeb62d905173b9d71"), looks := true }, kinds := [], alts := [], laidByText := true, laidKinds := [.data, .data, .data, .sentinel, .sentinel], laidTests := true, laidLooks := .later }
def FnFollowsCardSaid : Prop := Claim7.holds Tryz.pinned (.plain (OpenSpec.ofChange fnFollowsSpec)) fnFollowsCard

/-- THE TIED CARD OF 'laws.FnReply'. -/
def fnReplyCard : Claim7 := { stood := { row := fnReplyRow, standIns := [], harness := (true, "968a1dc2aa47a401f69bc1f395d38c7ab908d3c6e31a7cdfeb62d905173b9d71"), looks := true }, kinds := [], alts := [], laidByText := true, laidKinds := [.data, .data, .data, .sentinel, .sentinel], laidTests := true, laidLooks := .later }
def FnReplyCardSaid : Prop := Claim7.holds Tryz.pinned (.plain (OpenSpec.ofChange fnReplySpec)) fnReplyCard

/-- THE SECOND FORM's CARD OF 'laws.FnBelow'. -/
def fnBelowUptoCard : Claim7 := { stood := { row := fnBelowUptoRow, standIns := [], harness := (true, "968a1dc2aa47a401f69bc1f395d38c7ab908d3c6e31a7cdfeb62d905173b9d71"), looks := true }, kinds := [], alts := [], laidByText := true, laidKinds := [.data, .data, .data, .sentinel, .sentinel], laidTests := true, laidLooks := .later }
def FnBelowUptoCardSaid : Prop := Claim7.holds Tryz.pinned (.plain (OpenSpec.upto fnBelowSpec)) fnBelowUptoCard

/-- THE SECOND FORM's CARD OF 'laws.FnRun'. -/
def fnRunUptoCard : Claim7 := { stood := { row := fnRunUptoRow, standIns := [], harness := (true, "968a1dc2aa47a401f69bc1f395d38c7ab908d3c6e31a7cdfeb62d905173b9d71"), looks := true }, kinds := [], alts := [], laidByText := true, laidKinds := [.data, .data, .data, .sentinel, .sentinel, .sentinel], laidTests := true, laidLooks := .later }
def FnRunUptoCardSaid : Prop := Claim7.holds Tryz.pinned (.plain (OpenSpec.upto fnRunSpec)) fnRunUptoCard

/-- THE SECOND FORM's CARD OF 'laws.FnRunOther'. -/
def fnRunOtherUptoCard : Claim7 := { stood := { row := fnRunOtherUptoRow, standIns := [], harness := (true, "968a1dc2aa47a401f69bc1f395d38c7ab908d3c6e31a7cdfeb62d905173b9d71"), looks := true }, kinds := [], alts := [], laidByText := true, laidKinds := [.data, .data, .data, .sentinel, .sentinel, .sentinel], laidTests := true, laidLooks := .later }
def FnRunOtherUptoCardSaid : Prop := Claim7.holds Tryz.pinned (.plain (OpenSpec.upto fnRunOtherSpec)) fnRunOtherUptoCard

/-- THE SECOND FORM's CARD OF 'laws.FnFollows'. -/
def fnFollowsUptoCard : Claim7 := { stood := { row := fnFollowsUptoRow, standIns := [], harness := (true, "968a1dc2aa47a401f69bc1f395d38c7ab908d3c6e31a7cdfeb62d905173b9d71"), looks := true }, kinds := [], alts := [], laidByText := true, laidKinds := [.data, .data, .data, .sentinel, .sentinel], laidTests := true, laidLooks := .later }
def FnFollowsUptoCardSaid : Prop := Claim7.holds Tryz.pinned (.plain (OpenSpec.upto fnFollowsSpec)) fnFollowsUptoCard

/-- THE SECOND FORM's CARD OF 'laws.FnReply'. -/
def fnReplyUptoCard : Claim7 := { stood := { row := fnReplyUptoRow, standIns := [], harness := (true, "968a1dc2aa47a401f69bc1f395d38c7ab908d3c6e31a7cdfeb62d905173b9d71"), looks := true }, kinds := [], alts := [], laidByText := true, laidKinds := [.data, .data, .data, .sentinel, .sentinel], laidTests := true, laidLooks := .later }
def FnReplyUptoCardSaid : Prop := Claim7.holds Tryz.pinned (.plain (OpenSpec.upto fnReplySpec)) fnReplyUptoCard
end Rows
end Go.Proofs.YtfedjhgaeikjmaaGreatDoor
