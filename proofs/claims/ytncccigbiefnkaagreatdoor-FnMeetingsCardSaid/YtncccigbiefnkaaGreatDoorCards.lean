/-
  DERIVED. GIVEN WITH THE SEED: THE CARDS: each row of YtncccigbiefnkaaGreatDoorRows.lean that lists a variable, with what it lists TIED to the program's text (the seventh form; the later family's looks); each row that meets fmt, with fmt's text TOLD by the authors' own Lean function (tested against real Go, not proved from fmt's source: count such statements apart). THE CARD IS WHAT COUNTS. Prove the row's statement (the work); the ties are given (YtncccigbiefnkaaGreatDoorTie.lean); close each card by the builder's one call (the guide's Derived/Test/ToyasCard.lean, 'card_holds'). Laid BY PROGRAM, IN A SANDBOX (cutbox-door.mjs). By AI agents, Wed Nov 11 2026. No macro, syntax, notation, axiom, sorry.
-/
import Derived.Test.YtncccigbiefnkaaGreatDoorRows
import GoSem.ClaimSeven
namespace Go.Proofs.YtncccigbiefnkaaGreatDoor
namespace Rows

/-- THE TIED CARD OF 'laws.FnMeetings'. -/
def fnMeetingsCard : Claim7 := { stood := { row := fnMeetingsRow, standIns := [], harness := (true, "6081c3417709c80abbba07c9c402430d488c22a04cadb40f1dccac10b1af70b8"), looks := true }, kinds := [], alts := [], laidByText := true, laidKinds := [.data, .pinned], laidTests := true, laidLooks := .later }
def FnMeetingsCardSaid : Prop := Claim7.holds Tryz.pinned (.plain (OpenSpec.ofChange fnMeetingsSpec)) fnMeetingsCard

/-- THE TIED CARD OF 'laws.FnChangeTexts'. -/
def fnChangeTextsCard : Claim7 := { stood := { row := fnChangeTextsRow, standIns := [], harness := (true, "6081c3417709c80abbba07c9c402430d488c22a04cadb40f1dccac10b1af70b8"), looks := true }, kinds := [], alts := [], laidByText := true, laidKinds := [.data, .data, .data, .data, .sentinel, .sentinel, .pinned], laidTests := true, laidLooks := .later }
def FnChangeTextsCardSaid : Prop := Claim7.holds Tryz.pinned (.plain (OpenSpec.ofChange fnChangeTextsSpec)) fnChangeTextsCard

/-- THE TIED CARD OF 'laws.FnBetween'. -/
def fnBetweenCard : Claim7 := { stood := { row := fnBetweenRow, standIns := [], harness := (true, "6081c3417709c80abbba07c9c402430d488c22a04cadb40f1dccac10b1af70b8"), looks := true }, kinds := [], alts := [], laidByText := true, laidKinds := [.data, .pinned], laidTests := true, laidLooks := .later }
def FnBetweenCardSaid : Prop := Claim7.holds Tryz.pinned (.plain (OpenSpec.ofChange fnBetweenSpec)) fnBetweenCard

/-- THE TIED CARD OF 'laws.FnHistory'. -/
def fnHistoryCard : Claim7 := { stood := { row := fnHistoryRow, standIns := [], harness := (true, "6081c3417709c80abbba07c9c402430d488c22a04cadb40f1dccac10b1af70b8"), looks := true }, kinds := [], alts := [], laidByText := true, laidKinds := [.data, .pinned], laidTests := true, laidLooks := .later }
def FnHistoryCardSaid : Prop := Claim7.holds Tryz.pinned (.plain (OpenSpec.ofChange fnHistorySpec)) fnHistoryCard

/-- THE SECOND FORM's CARD OF 'laws.FnMeetings'. -/
def fnMeetingsUptoCard : Claim7 := { stood := { row := fnMeetingsUptoRow, standIns := [], harness := (true, "6081c3417709c80abbba07c9c402430d488c22a04cadb40f1dccac10b1af70b8"), looks := true }, kinds := [], alts := [], laidByText := true, laidKinds := [.data, .pinned], laidTests := true, laidLooks := .later }
def FnMeetingsUptoCardSaid : Prop := Claim7.holds Tryz.pinned (.plain (OpenSpec.upto fnMeetingsSpec)) fnMeetingsUptoCard

/-- THE SECOND FORM's CARD OF 'laws.FnChangeTexts'. -/
def fnChangeTextsUptoCard : Claim7 := { stood := { row := fnChangeTextsUptoRow, standIns := [], harness := (true, "6081c3417709c80abbba07c9c402430d488c22a04cadb40f1dccac10b1af70b8"), looks := true }, kinds := [], alts := [], laidByText := true, laidKinds := [.data, .data, .data, .data, .sentinel, .sentinel, .pinned], laidTests := true, laidLooks := .later }
def FnChangeTextsUptoCardSaid : Prop := Claim7.holds Tryz.pinned (.plain (OpenSpec.upto fnChangeTextsSpec)) fnChangeTextsUptoCard

/-- THE SECOND FORM's CARD OF 'laws.FnBetween'. -/
def fnBetweenUptoCard : Claim7 := { stood := { row := fnBetweenUptoRow, standIns := [], harness := (true, "6081c3417709c80abbba07c9c402430d488c22a04cadb40f1dccac10b1af70b8"), looks := true }, kinds := [], alts := [], laidByText := true, laidKinds := [.data, .pinned], laidTests := true, laidLooks := .later }
def FnBetweenUptoCardSaid : Prop := Claim7.holds Tryz.pinned (.plain (OpenSpec.upto fnBetweenSpec)) fnBetweenUptoCard

/-- THE SECOND FORM's CARD OF 'laws.FnHistory'. -/
def fnHistoryUptoCard : Claim7 := { stood := { row := fnHistoryUptoRow, standIns := [], harness := (true, "6081c3417709c80abbba07c9c402430d488c22a04cadb40f1dccac10b1af70b8"), looks := true }, kinds := [], alts := [], laidByText := true, laidKinds := [.data, .pinned], laidTests := true, laidLooks := .later }
def FnHistoryUptoCardSaid : Prop := Claim7.holds Tryz.pinned (.plain (OpenSpec.upto fnHistorySpec)) fnHistoryUptoCard
end Rows
end Go.Proofs.YtncccigbiefnkaaGreatDoor
