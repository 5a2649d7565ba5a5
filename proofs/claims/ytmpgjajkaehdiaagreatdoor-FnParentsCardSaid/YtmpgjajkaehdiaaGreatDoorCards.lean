/-
  DERIVED. GIVEN WITH THE SEED: THE CARDS: each row of YtmpgjajkaehdiaaGreatDoorRows.lean that lists a variable, with what it lists TIED to the program's text (the seventh form; the later family's looks); each row that meets fmt, with fmt's text TOLD by the authors' own Lean function (tested against real Go, not proved from fmt's source: count such statements apart). THE CARD IS WHAT COUNTS. Prove the row's statement (the work); the ties are given (YtmpgjajkaehdiaaGreatDoorTie.lean); close each card by the builder's one call (the guide's Derived/Test/ToyasCard.lean, 'card_holds'). Laid BY PROGRAM, IN A SANDBOX (cutbox-door.mjs). By AI agents, Wed Nov 11 2026. No macro, syntax, notation, axiom, sorry.
-/
import Derived.Test.YtmpgjajkaehdiaaGreatDoorRows
import GoSem.ClaimSeven
namespace Go.Proofs.YtmpgjajkaehdiaaGreatDoor
namespace Rows

/-- THE TIED CARD OF 'laws.FnMeetings'. -/
def fnMeetingsCard : Claim7 := { stood := { row := fnMeetingsRow, standIns := [], harness := (true, "7a256986a2d26151e11786a2468d63213d8d64e237ac52a41e453ba72d2387ab"), looks := false }, kinds := [], alts := [], laidByText := true, laidKinds := [.data, .pinned], laidTests := true, laidLooks := .later }
def FnMeetingsCardSaid : Prop := Claim7.holds Tryz.pinned (.plain (OpenSpec.ofChange fnMeetingsSpec)) fnMeetingsCard

/-- THE TIED CARD OF 'laws.FnParents'. -/
def fnParentsCard : Claim7 := { stood := { row := fnParentsRow, standIns := [], harness := (true, "7a256986a2d26151e11786a2468d63213d8d64e237ac52a41e453ba72d2387ab"), looks := false }, kinds := [], alts := [], laidByText := true, laidKinds := [.data, .pinned], laidTests := true, laidLooks := .later }
def FnParentsCardSaid : Prop := Claim7.holds Tryz.pinned (.plain (OpenSpec.ofChange fnParentsSpec)) fnParentsCard

/-- THE TIED CARD OF 'laws.FnExactYearsInside'. -/
def fnExactYearsInsideCard : Claim7 := { stood := { row := fnExactYearsInsideRow, standIns := [], harness := (true, "7a256986a2d26151e11786a2468d63213d8d64e237ac52a41e453ba72d2387ab"), looks := false }, kinds := [], alts := [], laidByText := true, laidKinds := [.data, .pinned], laidTests := true, laidLooks := .later }
def FnExactYearsInsideCardSaid : Prop := Claim7.holds Tryz.pinned (.plain (OpenSpec.ofChange fnExactYearsInsideSpec)) fnExactYearsInsideCard

/-- THE SECOND FORM's CARD OF 'laws.FnMeetings'. -/
def fnMeetingsUptoCard : Claim7 := { stood := { row := fnMeetingsUptoRow, standIns := [], harness := (true, "7a256986a2d26151e11786a2468d63213d8d64e237ac52a41e453ba72d2387ab"), looks := false }, kinds := [], alts := [], laidByText := true, laidKinds := [.data, .pinned], laidTests := true, laidLooks := .later }
def FnMeetingsUptoCardSaid : Prop := Claim7.holds Tryz.pinned (.plain (OpenSpec.upto fnMeetingsSpec)) fnMeetingsUptoCard

/-- THE SECOND FORM's CARD OF 'laws.FnParents'. -/
def fnParentsUptoCard : Claim7 := { stood := { row := fnParentsUptoRow, standIns := [], harness := (true, "7a256986a2d26151e11786a2468d63213d8d64e237ac52a41e453ba72d2387ab"), looks := false }, kinds := [], alts := [], laidByText := true, laidKinds := [.data, .pinned], laidTests := true, laidLooks := .later }
def FnParentsUptoCardSaid : Prop := Claim7.holds Tryz.pinned (.plain (OpenSpec.upto fnParentsSpec)) fnParentsUptoCard

/-- THE SECOND FORM's CARD OF 'laws.FnExactYearsInside'. -/
def fnExactYearsInsideUptoCard : Claim7 := { stood := { row := fnExactYearsInsideUptoRow, standIns := [], harness := (true, "7a256986a2d26151e11786a2468d63213d8d64e237ac52a41e453ba72d2387ab"), looks := false }, kinds := [], alts := [], laidByText := true, laidKinds := [.data, .pinned], laidTests := true, laidLooks := .later }
def FnExactYearsInsideUptoCardSaid : Prop := Claim7.holds Tryz.pinned (.plain (OpenSpec.upto fnExactYearsInsideSpec)) fnExactYearsInsideUptoCard
end Rows
end Go.Proofs.YtmpgjajkaehdiaaGreatDoor
