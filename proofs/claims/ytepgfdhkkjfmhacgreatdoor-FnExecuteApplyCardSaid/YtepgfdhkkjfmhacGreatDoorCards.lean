/-
  DERIVED. GIVEN WITH THE SEED: THE CARDS: each row of YtepgfdhkkjfmhacGreatDoorRows.lean that lists a variable, with what it lists TIED to the program's text (the seventh form; the later family's looks); each row that meets fmt, with fmt's text TOLD by the authors' own Lean function (tested against real Go, not proved from fmt's source: count such statements apart). THE CARD IS WHAT COUNTS. Prove the row's statement (the work); the ties are given (YtepgfdhkkjfmhacGreatDoorTie.lean); close each card by the builder's one call (the guide's Derived/Test/ToyasCard.lean, 'card_holds'). Laid BY PROGRAM, IN A SANDBOX (cutbox-door.mjs). By AI agents, Wed Nov 11 2026. No macro, syntax, notation, axiom, sorry.
-/
import Derived.Test.YtepgfdhkkjfmhacGreatDoorRows
import GoSem.ClaimSeven
namespace Go.Proofs.YtepgfdhkkjfmhacGreatDoor
namespace Rows

/-- THE TIED CARD OF 'laws.FnExecuteApply'. -/
def fnExecuteApplyCard : Claim7 := { stood := { row := fnExecuteApplyRow, standIns := [], harness := (true, "15c56bb1761603b79de9d846659fe8f3a2978983ec23e93aceb0f39692d10f37"), looks := true }, kinds := [], alts := [], laidByText := true, laidKinds := [.data, .data, .data, .data, .sentinel, .sentinel, .sentinel, .pinned], laidTests := true, laidLooks := .later }
def FnExecuteApplyCardSaid : Prop := Claim7.holds Tryz.pinned (.plain (OpenSpec.ofChange fnExecuteApplySpec)) fnExecuteApplyCard

/-- THE SECOND FORM's CARD OF 'laws.FnExecuteApply'. -/
def fnExecuteApplyUptoCard : Claim7 := { stood := { row := fnExecuteApplyUptoRow, standIns := [], harness := (true, "15c56bb1761603b79de9d846659fe8f3a2978983ec23e93aceb0f39692d10f37"), looks := true }, kinds := [], alts := [], laidByText := true, laidKinds := [.data, .data, .data, .data, .sentinel, .sentinel, .sentinel, .pinned], laidTests := true, laidLooks := .later }
def FnExecuteApplyUptoCardSaid : Prop := Claim7.holds Tryz.pinned (.plain (OpenSpec.upto fnExecuteApplySpec)) fnExecuteApplyUptoCard
end Rows
end Go.Proofs.YtepgfdhkkjfmhacGreatDoor
