/-
  DERIVED. GIVEN WITH THE SEED: THE CARDS: each row of YtapfokfbdmcokaaGreatDoorRows.lean that lists a variable, with what it lists TIED to the program's text (the seventh form; the later family's looks); each row that meets fmt, with fmt's text TOLD by the authors' own Lean function (tested against real Go, not proved from fmt's source: count such statements apart). THE CARD IS WHAT COUNTS. Prove the row's statement (the work); the ties are given (YtapfokfbdmcokaaGreatDoorTie.lean); close each card by the builder's one call (the guide's Derived/Test/ToyasCard.lean, 'card_holds'). Laid BY PROGRAM, IN A SANDBOX (cutbox-door.mjs). By AI agents, Wed Nov 11 2026. No macro, syntax, notation, axiom, sorry.
-/
import Derived.Test.YtapfokfbdmcokaaGreatDoorRows
import GoSem.ClaimSeven
namespace Go.Proofs.YtapfokfbdmcokaaGreatDoor
namespace Rows

/-- THE TIED CARD OF 'laws.FnExactAppearedBetween'. -/
def fnExactAppearedBetweenCard : Claim7 := { stood := { row := fnExactAppearedBetweenRow, standIns := [], harness := (true, "03d1c14518610c7fa3d5d79e6fc4b7b4d1b86867c3e6783c5b3c6bfa942ebf32"), looks := false }, kinds := [], alts := [], laidByText := true, laidKinds := [.data, .pinned], laidTests := true, laidLooks := .later }
def FnExactAppearedBetweenCardSaid : Prop := Claim7.holds Tryz.pinned (.plain (OpenSpec.ofChange fnExactAppearedBetweenSpec)) fnExactAppearedBetweenCard

/-- THE TIED CARD OF 'laws.FnExactMovedBetween'. -/
def fnExactMovedBetweenCard : Claim7 := { stood := { row := fnExactMovedBetweenRow, standIns := [], harness := (true, "03d1c14518610c7fa3d5d79e6fc4b7b4d1b86867c3e6783c5b3c6bfa942ebf32"), looks := false }, kinds := [], alts := [], laidByText := true, laidKinds := [.data, .pinned], laidTests := true, laidLooks := .later }
def FnExactMovedBetweenCardSaid : Prop := Claim7.holds Tryz.pinned (.plain (OpenSpec.ofChange fnExactMovedBetweenSpec)) fnExactMovedBetweenCard

/-- THE TIED CARD OF 'laws.FnExactSteadySpan'. -/
def fnExactSteadySpanCard : Claim7 := { stood := { row := fnExactSteadySpanRow, standIns := [], harness := (true, "03d1c14518610c7fa3d5d79e6fc4b7b4d1b86867c3e6783c5b3c6bfa942ebf32"), looks := false }, kinds := [], alts := [], laidByText := true, laidKinds := [.data, .pinned], laidTests := true, laidLooks := .later }
def FnExactSteadySpanCardSaid : Prop := Claim7.holds Tryz.pinned (.plain (OpenSpec.ofChange fnExactSteadySpanSpec)) fnExactSteadySpanCard

/-- THE TIED CARD OF 'laws.FnExactDifferBefore'. -/
def fnExactDifferBeforeCard : Claim7 := { stood := { row := fnExactDifferBeforeRow, standIns := [], harness := (true, "03d1c14518610c7fa3d5d79e6fc4b7b4d1b86867c3e6783c5b3c6bfa942ebf32"), looks := false }, kinds := [], alts := [], laidByText := true, laidKinds := [.data, .pinned], laidTests := true, laidLooks := .later }
def FnExactDifferBeforeCardSaid : Prop := Claim7.holds Tryz.pinned (.plain (OpenSpec.ofChange fnExactDifferBeforeSpec)) fnExactDifferBeforeCard

/-- THE TIED CARD OF 'laws.FnExactRenamedBetween'. -/
def fnExactRenamedBetweenCard : Claim7 := { stood := { row := fnExactRenamedBetweenRow, standIns := [], harness := (true, "03d1c14518610c7fa3d5d79e6fc4b7b4d1b86867c3e6783c5b3c6bfa942ebf32"), looks := false }, kinds := [], alts := [], laidByText := true, laidKinds := [.data, .pinned], laidTests := true, laidLooks := .later }
def FnExactRenamedBetweenCardSaid : Prop := Claim7.holds Tryz.pinned (.plain (OpenSpec.ofChange fnExactRenamedBetweenSpec)) fnExactRenamedBetweenCard

/-- THE TIED CARD OF 'laws.FnExactTurnsOf'. -/
def fnExactTurnsOfCard : Claim7 := { stood := { row := fnExactTurnsOfRow, standIns := [], harness := (true, "03d1c14518610c7fa3d5d79e6fc4b7b4d1b86867c3e6783c5b3c6bfa942ebf32"), looks := false }, kinds := [], alts := [], laidByText := true, laidKinds := [.data, .pinned], laidTests := true, laidLooks := .later }
def FnExactTurnsOfCardSaid : Prop := Claim7.holds Tryz.pinned (.plain (OpenSpec.ofChange fnExactTurnsOfSpec)) fnExactTurnsOfCard

/-- THE TIED CARD OF 'laws.FnExactStateLine'. -/
def fnExactStateLineCard : Claim7 := { stood := { row := fnExactStateLineRow, standIns := [], harness := (true, "03d1c14518610c7fa3d5d79e6fc4b7b4d1b86867c3e6783c5b3c6bfa942ebf32"), looks := false }, kinds := [], alts := [], laidByText := true, laidKinds := [.data, .pinned], laidTests := true, laidLooks := .later }
def FnExactStateLineCardSaid : Prop := Claim7.holds Tryz.pinned (.plain (OpenSpec.ofChange fnExactStateLineSpec)) fnExactStateLineCard

/-- THE TIED CARD OF 'laws.FnExactYearsInside'. -/
def fnExactYearsInsideCard : Claim7 := { stood := { row := fnExactYearsInsideRow, standIns := [], harness := (true, "03d1c14518610c7fa3d5d79e6fc4b7b4d1b86867c3e6783c5b3c6bfa942ebf32"), looks := false }, kinds := [], alts := [], laidByText := true, laidKinds := [.data, .pinned], laidTests := true, laidLooks := .later }
def FnExactYearsInsideCardSaid : Prop := Claim7.holds Tryz.pinned (.plain (OpenSpec.ofChange fnExactYearsInsideSpec)) fnExactYearsInsideCard

/-- THE TIED CARD OF 'laws.FnExactCountIn'. -/
def fnExactCountInCard : Claim7 := { stood := { row := fnExactCountInRow, standIns := [], harness := (true, "03d1c14518610c7fa3d5d79e6fc4b7b4d1b86867c3e6783c5b3c6bfa942ebf32"), looks := false }, kinds := [], alts := [], laidByText := true, laidKinds := [.data, .pinned], laidTests := true, laidLooks := .later }
def FnExactCountInCardSaid : Prop := Claim7.holds Tryz.pinned (.plain (OpenSpec.ofChange fnExactCountInSpec)) fnExactCountInCard

/-- THE SECOND FORM's CARD OF 'laws.FnExactAppearedBetween'. -/
def fnExactAppearedBetweenUptoCard : Claim7 := { stood := { row := fnExactAppearedBetweenUptoRow, standIns := [], harness := (true, "03d1c14518610c7fa3d5d79e6fc4b7b4d1b86867c3e6783c5b3c6bfa942ebf32"), looks := false }, kinds := [], alts := [], laidByText := true, laidKinds := [.data, .pinned], laidTests := true, laidLooks := .later }
def FnExactAppearedBetweenUptoCardSaid : Prop := Claim7.holds Tryz.pinned (.plain (OpenSpec.upto fnExactAppearedBetweenSpec)) fnExactAppearedBetweenUptoCard

/-- THE SECOND FORM's CARD OF 'laws.FnExactMovedBetween'. -/
def fnExactMovedBetweenUptoCard : Claim7 := { stood := { row := fnExactMovedBetweenUptoRow, standIns := [], harness := (true, "03d1c14518610c7fa3d5d79e6fc4b7b4d1b86867c3e6783c5b3c6bfa942ebf32"), looks := false }, kinds := [], alts := [], laidByText := true, laidKinds := [.data, .pinned], laidTests := true, laidLooks := .later }
def FnExactMovedBetweenUptoCardSaid : Prop := Claim7.holds Tryz.pinned (.plain (OpenSpec.upto fnExactMovedBetweenSpec)) fnExactMovedBetweenUptoCard

/-- THE SECOND FORM's CARD OF 'laws.FnExactSteadySpan'. -/
def fnExactSteadySpanUptoCard : Claim7 := { stood := { row := fnExactSteadySpanUptoRow, standIns := [], harness := (true, "03d1c14518610c7fa3d5d79e6fc4b7b4d1b86867c3e6783c5b3c6bfa942ebf32"), looks := false }, kinds := [], alts := [], laidByText := true, laidKinds := [.data, .pinned], laidTests := true, laidLooks := .later }
def FnExactSteadySpanUptoCardSaid : Prop := Claim7.holds Tryz.pinned (.plain (OpenSpec.upto fnExactSteadySpanSpec)) fnExactSteadySpanUptoCard

/-- THE SECOND FORM's CARD OF 'laws.FnExactDifferBefore'. -/
def fnExactDifferBeforeUptoCard : Claim7 := { stood := { row := fnExactDifferBeforeUptoRow, standIns := [], harness := (true, "03d1c14518610c7fa3d5d79e6fc4b7b4d1b86867c3e6783c5b3c6bfa942ebf32"), looks := false }, kinds := [], alts := [], laidByText := true, laidKinds := [.data, .pinned], laidTests := true, laidLooks := .later }
def FnExactDifferBeforeUptoCardSaid : Prop := Claim7.holds Tryz.pinned (.plain (OpenSpec.upto fnExactDifferBeforeSpec)) fnExactDifferBeforeUptoCard

/-- THE SECOND FORM's CARD OF 'laws.FnExactRenamedBetween'. -/
def fnExactRenamedBetweenUptoCard : Claim7 := { stood := { row := fnExactRenamedBetweenUptoRow, standIns := [], harness := (true, "03d1c14518610c7fa3d5d79e6fc4b7b4d1b86867c3e6783c5b3c6bfa942ebf32"), looks := false }, kinds := [], alts := [], laidByText := true, laidKinds := [.data, .pinned], laidTests := true, laidLooks := .later }
def FnExactRenamedBetweenUptoCardSaid : Prop := Claim7.holds Tryz.pinned (.plain (OpenSpec.upto fnExactRenamedBetweenSpec)) fnExactRenamedBetweenUptoCard

/-- THE SECOND FORM's CARD OF 'laws.FnExactTurnsOf'. -/
def fnExactTurnsOfUptoCard : Claim7 := { stood := { row := fnExactTurnsOfUptoRow, standIns := [], harness := (true, "03d1c14518610c7fa3d5d79e6fc4b7b4d1b86867c3e6783c5b3c6bfa942ebf32"), looks := false }, kinds := [], alts := [], laidByText := true, laidKinds := [.data, .pinned], laidTests := true, laidLooks := .later }
def FnExactTurnsOfUptoCardSaid : Prop := Claim7.holds Tryz.pinned (.plain (OpenSpec.upto fnExactTurnsOfSpec)) fnExactTurnsOfUptoCard

/-- THE SECOND FORM's CARD OF 'laws.FnExactStateLine'. -/
def fnExactStateLineUptoCard : Claim7 := { stood := { row := fnExactStateLineUptoRow, standIns := [], harness := (true, "03d1c14518610c7fa3d5d79e6fc4b7b4d1b86867c3e6783c5b3c6bfa942ebf32"), looks := false }, kinds := [], alts := [], laidByText := true, laidKinds := [.data, .pinned], laidTests := true, laidLooks := .later }
def FnExactStateLineUptoCardSaid : Prop := Claim7.holds Tryz.pinned (.plain (OpenSpec.upto fnExactStateLineSpec)) fnExactStateLineUptoCard

/-- THE SECOND FORM's CARD OF 'laws.FnExactYearsInside'. -/
def fnExactYearsInsideUptoCard : Claim7 := { stood := { row := fnExactYearsInsideUptoRow, standIns := [], harness := (true, "03d1c14518610c7fa3d5d79e6fc4b7b4d1b86867c3e6783c5b3c6bfa942ebf32"), looks := false }, kinds := [], alts := [], laidByText := true, laidKinds := [.data, .pinned], laidTests := true, laidLooks := .later }
def FnExactYearsInsideUptoCardSaid : Prop := Claim7.holds Tryz.pinned (.plain (OpenSpec.upto fnExactYearsInsideSpec)) fnExactYearsInsideUptoCard

/-- THE SECOND FORM's CARD OF 'laws.FnExactCountIn'. -/
def fnExactCountInUptoCard : Claim7 := { stood := { row := fnExactCountInUptoRow, standIns := [], harness := (true, "03d1c14518610c7fa3d5d79e6fc4b7b4d1b86867c3e6783c5b3c6bfa942ebf32"), looks := false }, kinds := [], alts := [], laidByText := true, laidKinds := [.data, .pinned], laidTests := true, laidLooks := .later }
def FnExactCountInUptoCardSaid : Prop := Claim7.holds Tryz.pinned (.plain (OpenSpec.upto fnExactCountInSpec)) fnExactCountInUptoCard
end Rows
end Go.Proofs.YtapfokfbdmcokaaGreatDoor
