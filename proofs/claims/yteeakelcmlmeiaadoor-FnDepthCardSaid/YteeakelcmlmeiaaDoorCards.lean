/-
  DERIVED. GIVEN WITH THE SEED: THE CARDS: each row of YteeakelcmlmeiaaDoorRows.lean that lists a variable, with what it lists TIED to the program's text (the seventh form; the later family's looks); each row that meets fmt, with fmt's text TOLD by the authors' own Lean function (tested against real Go, not proved from fmt's source: count such statements apart). THE CARD IS WHAT COUNTS. Prove the row's statement (the work); the ties are given (YteeakelcmlmeiaaDoorTie.lean); close each card by the builder's one call (the guide's Derived/Test/ToyasCard.lean, 'card_holds'). Laid BY PROGRAM, IN A SANDBOX (cutbox-door.mjs). By AI agents, Wed Nov 11 2026. No macro, syntax, notation, axiom, sorry.
-/
import Derived.Test.YteeakelcmlmeiaaDoorRows
import GoSem.ClaimSeven
namespace Go.Proofs.YteeakelcmlmeiaaDoor
namespace Rows

/-- THE TIED CARD OF 'laws.FnExactStrategyDepth'. -/
def fnExactStrategyDepthCard : Claim7 := { stood := { row := fnExactStrategyDepthRow, standIns := [], harness := (true, "53a4f52cb739fd7fd816da6492d8c0110e32b26a09406eee476acbbeff5fb440"), looks := true }, kinds := [], alts := [], laidByText := true, laidKinds := [.data, .data, .data, .sentinel, .sentinel], laidTests := true, laidLooks := .later }
def FnExactStrategyDepthCardSaid : Prop := Claim7.holds Tryd.pinned (.plain (OpenSpec.ofChange fnExactStrategyDepthSpec)) fnExactStrategyDepthCard

/-- THE TIED CARD OF 'laws.FnExactStrategyBelow'. -/
def fnExactStrategyBelowCard : Claim7 := { stood := { row := fnExactStrategyBelowRow, standIns := [], harness := (true, "53a4f52cb739fd7fd816da6492d8c0110e32b26a09406eee476acbbeff5fb440"), looks := true }, kinds := [], alts := [], laidByText := true, laidKinds := [.data, .data, .data, .sentinel, .sentinel], laidTests := true, laidLooks := .later }
def FnExactStrategyBelowCardSaid : Prop := Claim7.holds Tryd.pinned (.plain (OpenSpec.ofChange fnExactStrategyBelowSpec)) fnExactStrategyBelowCard

/-- THE TIED CARD OF 'laws.FnSize'. -/
def fnSizeCard : Claim7 := { stood := { row := fnSizeRow, standIns := [], harness := (true, "53a4f52cb739fd7fd816da6492d8c0110e32b26a09406eee476acbbeff5fb440"), looks := true }, kinds := [], alts := [], laidByText := true, laidKinds := [.data, .data, .data, .sentinel, .sentinel], laidTests := true, laidLooks := .later }
def FnSizeCardSaid : Prop := Claim7.holds Tryd.pinned (.plain (OpenSpec.ofChange fnSizeSpec)) fnSizeCard

/-- THE TIED CARD OF 'laws.FnStrategy'. -/
def fnStrategyCard : Claim7 := { stood := { row := fnStrategyRow, standIns := [], harness := (true, "53a4f52cb739fd7fd816da6492d8c0110e32b26a09406eee476acbbeff5fb440"), looks := true }, kinds := [], alts := [], laidByText := true, laidKinds := [.data, .data, .data, .sentinel, .sentinel], laidTests := true, laidLooks := .later }
def FnStrategyCardSaid : Prop := Claim7.holds Tryd.pinned (.plain (OpenSpec.ofChange fnStrategySpec)) fnStrategyCard

/-- THE TIED CARD OF 'laws.FnDepth'. -/
def fnDepthCard : Claim7 := { stood := { row := fnDepthRow, standIns := [], harness := (true, "53a4f52cb739fd7fd816da6492d8c0110e32b26a09406eee476acbbeff5fb440"), looks := true }, kinds := [], alts := [], laidByText := true, laidKinds := [.data, .data, .data, .sentinel, .sentinel], laidTests := true, laidLooks := .later }
def FnDepthCardSaid : Prop := Claim7.holds Tryd.pinned (.plain (OpenSpec.ofChange fnDepthSpec)) fnDepthCard

/-- THE SECOND FORM's CARD OF 'laws.FnExactStrategyDepth'. -/
def fnExactStrategyDepthUptoCard : Claim7 := { stood := { row := fnExactStrategyDepthUptoRow, standIns := [], harness := (true, "53a4f52cb739fd7fd816da6492d8c0110e32b26a09406eee476acbbeff5fb440"), looks := true }, kinds := [], alts := [], laidByText := true, laidKinds := [.data, .data, .data, .sentinel, .sentinel], laidTests := true, laidLooks := .later }
def FnExactStrategyDepthUptoCardSaid : Prop := Claim7.holds Tryd.pinned (.plain (OpenSpec.upto fnExactStrategyDepthSpec)) fnExactStrategyDepthUptoCard

/-- THE SECOND FORM's CARD OF 'laws.FnExactStrategyBelow'. -/
def fnExactStrategyBelowUptoCard : Claim7 := { stood := { row := fnExactStrategyBelowUptoRow, standIns := [], harness := (true, "53a4f52cb739fd7fd816da6492d8c0110e32b26a09406eee476acbbeff5fb440"), looks := true }, kinds := [], alts := [], laidByText := true, laidKinds := [.data, .data, .data, .sentinel, .sentinel], laidTests := true, laidLooks := .later }
def FnExactStrategyBelowUptoCardSaid : Prop := Claim7.holds Tryd.pinned (.plain (OpenSpec.upto fnExactStrategyBelowSpec)) fnExactStrategyBelowUptoCard

/-- THE SECOND FORM's CARD OF 'laws.FnSize'. -/
def fnSizeUptoCard : Claim7 := { stood := { row := fnSizeUptoRow, standIns := [], harness := (true, "53a4f52cb739fd7fd816da6492d8c0110e32b26a09406eee476acbbeff5fb440"), looks := true }, kinds := [], alts := [], laidByText := true, laidKinds := [.data, .data, .data, .sentinel, .sentinel], laidTests := true, laidLooks := .later }
def FnSizeUptoCardSaid : Prop := Claim7.holds Tryd.pinned (.plain (OpenSpec.upto fnSizeSpec)) fnSizeUptoCard

/-- THE SECOND FORM's CARD OF 'laws.FnStrategy'. -/
def fnStrategyUptoCard : Claim7 := { stood := { row := fnStrategyUptoRow, standIns := [], harness := (true, "53a4f52cb739fd7fd816da6492d8c0110e32b26a09406eee476acbbeff5fb440"), looks := true }, kinds := [], alts := [], laidByText := true, laidKinds := [.data, .data, .data, .sentinel, .sentinel], laidTests := true, laidLooks := .later }
def FnStrategyUptoCardSaid : Prop := Claim7.holds Tryd.pinned (.plain (OpenSpec.upto fnStrategySpec)) fnStrategyUptoCard

/-- THE SECOND FORM's CARD OF 'laws.FnDepth'. -/
def fnDepthUptoCard : Claim7 := { stood := { row := fnDepthUptoRow, standIns := [], harness := (true, "53a4f52cb739fd7fd816da6492d8c0110e32b26a09406eee476acbbeff5fb440"), looks := true }, kinds := [], alts := [], laidByText := true, laidKinds := [.data, .data, .data, .sentinel, .sentinel], laidTests := true, laidLooks := .later }
def FnDepthUptoCardSaid : Prop := Claim7.holds Tryd.pinned (.plain (OpenSpec.upto fnDepthSpec)) fnDepthUptoCard
end Rows
end Go.Proofs.YteeakelcmlmeiaaDoor
