/-
  DERIVED. GIVEN WITH THE SEED: THE CARDS: each row of YtohepefbogngfaaDoorRows.lean that lists a variable, with what it lists TIED to the program's text (the seventh form; the later family's looks); each row that meets fmt, with fmt's text TOLD by the authors' own Lean function (tested against real Go, not proved from fmt's source: count such statements apart). THE CARD IS WHAT COUNTS. Prove the row's statement (the work); the ties are given (YtohepefbogngfaaDoorTie.lean); close each card by the builder's one call (the guide's Derived/Test/ToyasCard.lean, 'card_holds'). Laid BY PROGRAM, IN A SANDBOX (cutbox-door.mjs). By AI agents, Wed Nov 11 2026. No macro, syntax, notation, axiom, sorry.
-/
import Derived.Test.YtohepefbogngfaaDoorRows
import GoSem.ClaimSeven
namespace Go.Proofs.YtohepefbogngfaaDoor
namespace Rows

/-- THE TIED CARD OF 'laws.FnExactStrategyTerm'. -/
def fnExactStrategyTermCard : Claim7 := { stood := { row := fnExactStrategyTermRow, standIns := [], harness := (true, "19b36575e8b1da5434d2fe2863f402f493dc59a518a30da1607f5a419ebad241"), looks := true }, kinds := [], alts := [], laidByText := true, laidKinds := [.data, .data, .data, .sentinel, .sentinel], laidTests := true, laidLooks := .later }
def FnExactStrategyTermCardSaid : Prop := Claim7.holds Tryd.pinned (.plain (OpenSpec.ofChange fnExactStrategyTermSpec)) fnExactStrategyTermCard

/-- THE TIED CARD OF 'laws.FnExactViewsOf'. -/
def fnExactViewsOfCard : Claim7 := { stood := { row := fnExactViewsOfRow, standIns := [], harness := (true, "19b36575e8b1da5434d2fe2863f402f493dc59a518a30da1607f5a419ebad241"), looks := true }, kinds := [], alts := [], laidByText := true, laidKinds := [.data, .data, .data, .sentinel, .sentinel], laidTests := true, laidLooks := .later }
def FnExactViewsOfCardSaid : Prop := Claim7.holds Tryd.pinned (.plain (OpenSpec.ofChange fnExactViewsOfSpec)) fnExactViewsOfCard

/-- THE SECOND FORM's CARD OF 'laws.FnExactStrategyTerm'. -/
def fnExactStrategyTermUptoCard : Claim7 := { stood := { row := fnExactStrategyTermUptoRow, standIns := [], harness := (true, "19b36575e8b1da5434d2fe2863f402f493dc59a518a30da1607f5a419ebad241"), looks := true }, kinds := [], alts := [], laidByText := true, laidKinds := [.data, .data, .data, .sentinel, .sentinel], laidTests := true, laidLooks := .later }
def FnExactStrategyTermUptoCardSaid : Prop := Claim7.holds Tryd.pinned (.plain (OpenSpec.upto fnExactStrategyTermSpec)) fnExactStrategyTermUptoCard

/-- THE SECOND FORM's CARD OF 'laws.FnExactViewsOf'. -/
def fnExactViewsOfUptoCard : Claim7 := { stood := { row := fnExactViewsOfUptoRow, standIns := [], harness := (true, "19b36575e8b1da5434d2fe2863f402f493dc59a518a30da1607f5a419ebad241"), looks := true }, kinds := [], alts := [], laidByText := true, laidKinds := [.data, .data, .data, .sentinel, .sentinel], laidTests := true, laidLooks := .later }
def FnExactViewsOfUptoCardSaid : Prop := Claim7.holds Tryd.pinned (.plain (OpenSpec.upto fnExactViewsOfSpec)) fnExactViewsOfUptoCard
end Rows
end Go.Proofs.YtohepefbogngfaaDoor
