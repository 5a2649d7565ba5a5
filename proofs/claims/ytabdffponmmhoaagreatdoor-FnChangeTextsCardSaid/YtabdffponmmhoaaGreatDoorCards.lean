/-
  DERIVED. GIVEN WITH THE SEED: THE CARDS: each row of YtabdffponmmhoaaGreatDoorRows.lean that lists a variable, with what it lists TIED to the program's text (the seventh form; the later family's looks); each row that meets fmt, with fmt's text TOLD by the authors' own Lean function (tested against real Go, not proved from fmt's source: count such statements apart). THE CARD IS WHAT COUNTS. Prove the row's statement (the work); the ties are given (YtabdffponmmhoaaGreatDoorTie.lean); close each card by the builder's one call (the guide's Derived/Test/ToyasCard.lean, 'card_holds'). Laid BY PROGRAM, IN A SANDBOX (cutbox-door.mjs). By AI agents, Wed Nov 11 2026. No macro, syntax, notation, axiom, sorry.
-/
import Derived.Test.YtabdffponmmhoaaGreatDoorRows
import GoSem.ClaimSeven
namespace Go.Proofs.YtabdffponmmhoaaGreatDoor
namespace Rows

/-- THE TIED CARD OF 'laws.FnExactOwnersAt'. -/
def fnExactOwnersAtCard : Claim7 := { stood := { row := fnExactOwnersAtRow, standIns := [], harness := (true, "a366745d3adef2a55dc57f77d13f54ed62fa2878cd829187a44dadc49066a888"), looks := true }, kinds := [], alts := [], laidByText := true, laidKinds := [.data, .pinned], laidTests := true, laidLooks := .later }
def FnExactOwnersAtCardSaid : Prop := Claim7.holds Tryz.pinned (.plain (OpenSpec.ofChange fnExactOwnersAtSpec)) fnExactOwnersAtCard

/-- THE TIED CARD OF 'laws.FnChangeTexts'. -/
def fnChangeTextsCard : Claim7 := { stood := { row := fnChangeTextsRow, standIns := [], harness := (true, "a366745d3adef2a55dc57f77d13f54ed62fa2878cd829187a44dadc49066a888"), looks := true }, kinds := [], alts := [], laidByText := true, laidKinds := [.data, .data, .data, .data, .sentinel, .sentinel, .pinned], laidTests := true, laidLooks := .later }
def FnChangeTextsCardSaid : Prop := Claim7.holds Tryz.pinned (.plain (OpenSpec.ofChange fnChangeTextsSpec)) fnChangeTextsCard

/-- THE SECOND FORM's CARD OF 'laws.FnExactOwnersAt'. -/
def fnExactOwnersAtUptoCard : Claim7 := { stood := { row := fnExactOwnersAtUptoRow, standIns := [], harness := (true, "a366745d3adef2a55dc57f77d13f54ed62fa2878cd829187a44dadc49066a888"), looks := true }, kinds := [], alts := [], laidByText := true, laidKinds := [.data, .pinned], laidTests := true, laidLooks := .later }
def FnExactOwnersAtUptoCardSaid : Prop := Claim7.holds Tryz.pinned (.plain (OpenSpec.upto fnExactOwnersAtSpec)) fnExactOwnersAtUptoCard

/-- THE SECOND FORM's CARD OF 'laws.FnChangeTexts'. -/
def fnChangeTextsUptoCard : Claim7 := { stood := { row := fnChangeTextsUptoRow, standIns := [], harness := (true, "a366745d3adef2a55dc57f77d13f54ed62fa2878cd829187a44dadc49066a888"), looks := true }, kinds := [], alts := [], laidByText := true, laidKinds := [.data, .data, .data, .data, .sentinel, .sentinel, .pinned], laidTests := true, laidLooks := .later }
def FnChangeTextsUptoCardSaid : Prop := Claim7.holds Tryz.pinned (.plain (OpenSpec.upto fnChangeTextsSpec)) fnChangeTextsUptoCard
end Rows
end Go.Proofs.YtabdffponmmhoaaGreatDoor
