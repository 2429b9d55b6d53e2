/-
  DERIVED. GIVEN WITH THE SEED: THE CARDS: each row of YtibnnbdpfkgfhaaGreatDoorRows.lean that lists a variable, with what it lists TIED to the program's text (the seventh form; the later family's looks); each row that meets fmt, with fmt's text TOLD by the authors' own Lean function (tested against real Go, not proved from fmt's source: count such statements apart). THE CARD IS WHAT COUNTS. Prove the row's statement (the work); the ties are given (YtibnnbdpfkgfhaaGreatDoorTie.lean); close each card by the builder's one call (the guide's Derived/Test/ToyasCard.lean, 'card_holds'). Laid BY PROGRAM, IN A SANDBOX (cutbox-door.mjs). By AI agents, Wed Nov 11 2026. No macro, syntax, notation, axiom, sorry.
-/
import Derived.Test.YtibnnbdpfkgfhaaGreatDoorRows
import GoSem.ClaimSeven
namespace Go.Proofs.YtibnnbdpfkgfhaaGreatDoor
namespace Rows

/-- THE TIED CARD OF 'laws.FnExactComposeOf'. -/
def fnExactComposeOfCard : Claim7 := { stood := { row := fnExactComposeOfRow, standIns := [], harness := (true, "df93c57c7eac3c897c6810731e517a709e50d031655157fcf6a2649a185fc447"), looks := true }, kinds := [], alts := [], laidByText := true, laidKinds := [.data, .data, .data, .sentinel, .sentinel, .sentinel], laidTests := true, laidLooks := .later }
def FnExactComposeOfCardSaid : Prop := Claim7.holds Tryz.pinned (.plain (OpenSpec.ofChange fnExactComposeOfSpec)) fnExactComposeOfCard

/-- THE TIED CARD OF 'laws.FnCopyApply'. -/
def fnCopyApplyCard : Claim7 := { stood := { row := fnCopyApplyRow, standIns := [], harness := (true, "df93c57c7eac3c897c6810731e517a709e50d031655157fcf6a2649a185fc447"), looks := true }, kinds := [], alts := [], laidByText := true, laidKinds := [.data, .data, .data, .sentinel, .sentinel, .sentinel], laidTests := true, laidLooks := .later }
def FnCopyApplyCardSaid : Prop := Claim7.holds Tryz.pinned (.plain (OpenSpec.ofChange fnCopyApplySpec)) fnCopyApplyCard

/-- THE TIED CARD OF 'laws.FnCopy'. -/
def fnCopyCard : Claim7 := { stood := { row := fnCopyRow, standIns := [], harness := (true, "df93c57c7eac3c897c6810731e517a709e50d031655157fcf6a2649a185fc447"), looks := true }, kinds := [], alts := [], laidByText := true, laidKinds := [.data, .data, .data, .sentinel, .sentinel, .sentinel], laidTests := true, laidLooks := .later }
def FnCopyCardSaid : Prop := Claim7.holds Tryz.pinned (.plain (OpenSpec.ofChange fnCopySpec)) fnCopyCard

/-- THE TIED CARD OF 'laws.FnCompose'. -/
def fnComposeCard : Claim7 := { stood := { row := fnComposeRow, standIns := [], harness := (true, "df93c57c7eac3c897c6810731e517a709e50d031655157fcf6a2649a185fc447"), looks := true }, kinds := [], alts := [], laidByText := true, laidKinds := [.data, .data, .data, .sentinel, .sentinel, .sentinel], laidTests := true, laidLooks := .later }
def FnComposeCardSaid : Prop := Claim7.holds Tryz.pinned (.plain (OpenSpec.ofChange fnComposeSpec)) fnComposeCard

/-- THE TIED CARD OF 'laws.FnApplyAll'. -/
def fnApplyAllCard : Claim7 := { stood := { row := fnApplyAllRow, standIns := [], harness := (true, "df93c57c7eac3c897c6810731e517a709e50d031655157fcf6a2649a185fc447"), looks := true }, kinds := [], alts := [], laidByText := true, laidKinds := [.data, .data, .data, .sentinel, .sentinel, .sentinel], laidTests := true, laidLooks := .later }
def FnApplyAllCardSaid : Prop := Claim7.holds Tryz.pinned (.plain (OpenSpec.ofChange fnApplyAllSpec)) fnApplyAllCard

/-- THE TIED CARD OF 'laws.FnResult'. -/
def fnResultCard : Claim7 := { stood := { row := fnResultRow, standIns := [], harness := (true, "df93c57c7eac3c897c6810731e517a709e50d031655157fcf6a2649a185fc447"), looks := true }, kinds := [], alts := [], laidByText := true, laidKinds := [.data, .data, .data, .sentinel, .sentinel, .sentinel], laidTests := true, laidLooks := .later }
def FnResultCardSaid : Prop := Claim7.holds Tryz.pinned (.plain (OpenSpec.ofChange fnResultSpec)) fnResultCard

/-- THE TIED CARD OF 'laws.FnApply'. -/
def fnApplyCard : Claim7 := { stood := { row := fnApplyRow, standIns := [], harness := (true, "df93c57c7eac3c897c6810731e517a709e50d031655157fcf6a2649a185fc447"), looks := true }, kinds := [], alts := [], laidByText := true, laidKinds := [.data, .data, .data, .sentinel, .sentinel, .sentinel], laidTests := true, laidLooks := .later }
def FnApplyCardSaid : Prop := Claim7.holds Tryz.pinned (.plain (OpenSpec.ofChange fnApplySpec)) fnApplyCard

/-- THE SECOND FORM's CARD OF 'laws.FnExactComposeOf'. -/
def fnExactComposeOfUptoCard : Claim7 := { stood := { row := fnExactComposeOfUptoRow, standIns := [], harness := (true, "df93c57c7eac3c897c6810731e517a709e50d031655157fcf6a2649a185fc447"), looks := true }, kinds := [], alts := [], laidByText := true, laidKinds := [.data, .data, .data, .sentinel, .sentinel, .sentinel], laidTests := true, laidLooks := .later }
def FnExactComposeOfUptoCardSaid : Prop := Claim7.holds Tryz.pinned (.plain (OpenSpec.upto fnExactComposeOfSpec)) fnExactComposeOfUptoCard

/-- THE SECOND FORM's CARD OF 'laws.FnCopyApply'. -/
def fnCopyApplyUptoCard : Claim7 := { stood := { row := fnCopyApplyUptoRow, standIns := [], harness := (true, "df93c57c7eac3c897c6810731e517a709e50d031655157fcf6a2649a185fc447"), looks := true }, kinds := [], alts := [], laidByText := true, laidKinds := [.data, .data, .data, .sentinel, .sentinel, .sentinel], laidTests := true, laidLooks := .later }
def FnCopyApplyUptoCardSaid : Prop := Claim7.holds Tryz.pinned (.plain (OpenSpec.upto fnCopyApplySpec)) fnCopyApplyUptoCard

/-- THE SECOND FORM's CARD OF 'laws.FnCopy'. -/
def fnCopyUptoCard : Claim7 := { stood := { row := fnCopyUptoRow, standIns := [], harness := (true, "df93c57c7eac3c897c6810731e517a709e50d031655157fcf6a2649a185fc447"), looks := true }, kinds := [], alts := [], laidByText := true, laidKinds := [.data, .data, .data, .sentinel, .sentinel, .sentinel], laidTests := true, laidLooks := .later }
def FnCopyUptoCardSaid : Prop := Claim7.holds Tryz.pinned (.plain (OpenSpec.upto fnCopySpec)) fnCopyUptoCard

/-- THE SECOND FORM's CARD OF 'laws.FnCompose'. -/
def fnComposeUptoCard : Claim7 := { stood := { row := fnComposeUptoRow, standIns := [], harness := (true, "df93c57c7eac3c897c6810731e517a709e50d031655157fcf6a2649a185fc447"), looks := true }, kinds := [], alts := [], laidByText := true, laidKinds := [.data, .data, .data, .sentinel, .sentinel, .sentinel], laidTests := true, laidLooks := .later }
def FnComposeUptoCardSaid : Prop := Claim7.holds Tryz.pinned (.plain (OpenSpec.upto fnComposeSpec)) fnComposeUptoCard

/-- THE SECOND FORM's CARD OF 'laws.FnApplyAll'. -/
def fnApplyAllUptoCard : Claim7 := { stood := { row := fnApplyAllUptoRow, standIns := [], harness := (true, "df93c57c7eac3c897c6810731e517a709e50d031655157fcf6a2649a185fc447"), looks := true }, kinds := [], alts := [], laidByText := true, laidKinds := [.data, .data, .data, .sentinel, .sentinel, .sentinel], laidTests := true, laidLooks := .later }
def FnApplyAllUptoCardSaid : Prop := Claim7.holds Tryz.pinned (.plain (OpenSpec.upto fnApplyAllSpec)) fnApplyAllUptoCard

/-- THE SECOND FORM's CARD OF 'laws.FnResult'. -/
def fnResultUptoCard : Claim7 := { stood := { row := fnResultUptoRow, standIns := [], harness := (true, "df93c57c7eac3c897c6810731e517a709e50d031655157fcf6a2649a185fc447"), looks := true }, kinds := [], alts := [], laidByText := true, laidKinds := [.data, .data, .data, .sentinel, .sentinel, .sentinel], laidTests := true, laidLooks := .later }
def FnResultUptoCardSaid : Prop := Claim7.holds Tryz.pinned (.plain (OpenSpec.upto fnResultSpec)) fnResultUptoCard

/-- THE SECOND FORM's CARD OF 'laws.FnApply'. -/
def fnApplyUptoCard : Claim7 := { stood := { row := fnApplyUptoRow, standIns := [], harness := (true, "df93c57c7eac3c897c6810731e517a709e50d031655157fcf6a2649a185fc447"), looks := true }, kinds := [], alts := [], laidByText := true, laidKinds := [.data, .data, .data, .sentinel, .sentinel, .sentinel], laidTests := true, laidLooks := .later }
def FnApplyUptoCardSaid : Prop := Claim7.holds Tryz.pinned (.plain (OpenSpec.upto fnApplySpec)) fnApplyUptoCard
end Rows
end Go.Proofs.YtibnnbdpfkgfhaaGreatDoor
