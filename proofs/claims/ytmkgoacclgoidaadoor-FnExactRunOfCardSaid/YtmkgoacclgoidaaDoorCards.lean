/-
  DERIVED. GIVEN WITH THE SEED: THE CARDS: each row of YtmkgoacclgoidaaDoorRows.lean that lists a variable, with what it lists TIED to the program's text (the seventh form; the later family's looks); each row that meets fmt, with fmt's text TOLD by the authors' own Lean function (tested against real Go, not proved from fmt's source: count such statements apart). THE CARD IS WHAT COUNTS. Prove the row's statement (the work); the ties are given (YtmkgoacclgoidaaDoorTie.lean); close each card by the builder's one call (the guide's Derived/Test/ToyasCard.lean, 'card_holds'). Laid BY PROGRAM, IN A SANDBOX (cutbox-door.mjs). By AI agents, Wed Nov 11 2026. No macro, syntax, notation, axiom, sorry.
-/
import Derived.Test.YtmkgoacclgoidaaDoorRows
import GoSem.ClaimSeven
namespace Go.Proofs.YtmkgoacclgoidaaDoor
namespace Rows

/-- THE TIED CARD OF 'laws.FnExactRunResult'. -/
def fnExactRunResultCard : Claim7 := { stood := { row := fnExactRunResultRow, standIns := [], harness := (true, "84621aa143f891d80e41576c108641aead5bd6b5e143af2da22b8407565ca8d8"), looks := true }, kinds := [], alts := [], laidByText := true, laidKinds := [.data, .data, .data, .sentinel, .sentinel, .sentinel], laidTests := true, laidLooks := .later }
def FnExactRunResultCardSaid : Prop := Claim7.holds Tryd.pinned (.plain (OpenSpec.ofChange fnExactRunResultSpec)) fnExactRunResultCard

/-- THE TIED CARD OF 'laws.FnExactRunOf'. -/
def fnExactRunOfCard : Claim7 := { stood := { row := fnExactRunOfRow, standIns := [], harness := (true, "84621aa143f891d80e41576c108641aead5bd6b5e143af2da22b8407565ca8d8"), looks := true }, kinds := [], alts := [], laidByText := true, laidKinds := [.data, .data, .data, .sentinel, .sentinel, .sentinel], laidTests := true, laidLooks := .later }
def FnExactRunOfCardSaid : Prop := Claim7.holds Tryd.pinned (.plain (OpenSpec.ofChange fnExactRunOfSpec)) fnExactRunOfCard

/-- THE TIED CARD OF 'laws.FnExactViewsOf'. -/
def fnExactViewsOfCard : Claim7 := { stood := { row := fnExactViewsOfRow, standIns := [], harness := (true, "84621aa143f891d80e41576c108641aead5bd6b5e143af2da22b8407565ca8d8"), looks := true }, kinds := [], alts := [], laidByText := true, laidKinds := [.data, .data, .data, .sentinel, .sentinel], laidTests := true, laidLooks := .later }
def FnExactViewsOfCardSaid : Prop := Claim7.holds Tryd.pinned (.plain (OpenSpec.ofChange fnExactViewsOfSpec)) fnExactViewsOfCard

/-- THE TIED CARD OF 'laws.FnExactStrategyTerm'. -/
def fnExactStrategyTermCard : Claim7 := { stood := { row := fnExactStrategyTermRow, standIns := [], harness := (true, "84621aa143f891d80e41576c108641aead5bd6b5e143af2da22b8407565ca8d8"), looks := true }, kinds := [], alts := [], laidByText := true, laidKinds := [.data, .data, .data, .sentinel, .sentinel], laidTests := true, laidLooks := .later }
def FnExactStrategyTermCardSaid : Prop := Claim7.holds Tryd.pinned (.plain (OpenSpec.ofChange fnExactStrategyTermSpec)) fnExactStrategyTermCard

/-- THE SECOND FORM's CARD OF 'laws.FnExactRunResult'. -/
def fnExactRunResultUptoCard : Claim7 := { stood := { row := fnExactRunResultUptoRow, standIns := [], harness := (true, "84621aa143f891d80e41576c108641aead5bd6b5e143af2da22b8407565ca8d8"), looks := true }, kinds := [], alts := [], laidByText := true, laidKinds := [.data, .data, .data, .sentinel, .sentinel, .sentinel], laidTests := true, laidLooks := .later }
def FnExactRunResultUptoCardSaid : Prop := Claim7.holds Tryd.pinned (.plain (OpenSpec.upto fnExactRunResultSpec)) fnExactRunResultUptoCard

/-- THE SECOND FORM's CARD OF 'laws.FnExactRunOf'. -/
def fnExactRunOfUptoCard : Claim7 := { stood := { row := fnExactRunOfUptoRow, standIns := [], harness := (true, "84621aa143f891d80e41576c108641aead5bd6b5e143af2da22b8407565ca8d8"), looks := true }, kinds := [], alts := [], laidByText := true, laidKinds := [.data, .data, .data, .sentinel, .sentinel, .sentinel], laidTests := true, laidLooks := .later }
def FnExactRunOfUptoCardSaid : Prop := Claim7.holds Tryd.pinned (.plain (OpenSpec.upto fnExactRunOfSpec)) fnExactRunOfUptoCard

/-- THE SECOND FORM's CARD OF 'laws.FnExactViewsOf'. -/
def fnExactViewsOfUptoCard : Claim7 := { stood := { row := fnExactViewsOfUptoRow, standIns := [], harness := (true, "84621aa143f891d80e41576c108641aead5bd6b5e143af2da22b8407565ca8d8"), looks := true }, kinds := [], alts := [], laidByText := true, laidKinds := [.data, .data, .data, .sentinel, .sentinel], laidTests := true, laidLooks := .later }
def FnExactViewsOfUptoCardSaid : Prop := Claim7.holds Tryd.pinned (.plain (OpenSpec.upto fnExactViewsOfSpec)) fnExactViewsOfUptoCard

/-- THE SECOND FORM's CARD OF 'laws.FnExactStrategyTerm'. -/
def fnExactStrategyTermUptoCard : Claim7 := { stood := { row := fnExactStrategyTermUptoRow, standIns := [], harness := (true, "84621aa143f891d80e41576c108641aead5bd6b5e143af2da22b8407565ca8d8"), looks := true }, kinds := [], alts := [], laidByText := true, laidKinds := [.data, .data, .data, .sentinel, .sentinel], laidTests := true, laidLooks := .later }
def FnExactStrategyTermUptoCardSaid : Prop := Claim7.holds Tryd.pinned (.plain (OpenSpec.upto fnExactStrategyTermSpec)) fnExactStrategyTermUptoCard
end Rows
end Go.Proofs.YtmkgoacclgoidaaDoor
