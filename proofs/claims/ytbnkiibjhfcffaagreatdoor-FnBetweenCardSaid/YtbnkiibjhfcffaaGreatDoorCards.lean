/-
  DERIVED. GIVEN WITH THE SEED: THE CARDS: each row of YtbnkiibjhfcffaaGreatDoorRows.lean that lists a variable, with what it lists TIED to the program's text (the seventh form; the later family's looks); each row that meets fmt, with fmt's text TOLD by the authors' own Lean function (tested against real Go, not proved from fmt's source: count such statements apart). THE CARD IS WHAT COUNTS. Prove the row's statement (the work); the ties are given (YtbnkiibjhfcffaaGreatDoorTie.lean); close each card by the builder's one call (the guide's Derived/Test/ToyasCard.lean, 'card_holds'). Laid BY PROGRAM, IN A SANDBOX (cutbox-door.mjs). By AI agents, Wed Nov 11 2026. No macro, syntax, notation, axiom, sorry.
-/
import Derived.Test.YtbnkiibjhfcffaaGreatDoorRows
import GoSem.ClaimSeven
namespace Go.Proofs.YtbnkiibjhfcffaaGreatDoor
namespace Rows

/-- THE TIED CARD OF 'laws.FnBetween'. -/
def fnBetweenCard : Claim7 := { stood := { row := fnBetweenRow, standIns := [], harness := (true, "099fc54b3abd58e7625206dbc7ec890cd891ef679574f93149151b570850e846"), looks := false }, kinds := [], alts := [], laidByText := true, laidKinds := [.data, .pinned], laidTests := true, laidLooks := .later }
def FnBetweenCardSaid : Prop := Claim7.holds Tryz.pinned (.plain (OpenSpec.ofChange fnBetweenSpec)) fnBetweenCard

/-- THE SECOND FORM's CARD OF 'laws.FnBetween'. -/
def fnBetweenUptoCard : Claim7 := { stood := { row := fnBetweenUptoRow, standIns := [], harness := (true, "099fc54b3abd58e7625206dbc7ec890cd891ef679574f93149151b570850e846"), looks := false }, kinds := [], alts := [], laidByText := true, laidKinds := [.data, .pinned], laidTests := true, laidLooks := .later }
def FnBetweenUptoCardSaid : Prop := Claim7.holds Tryz.pinned (.plain (OpenSpec.upto fnBetweenSpec)) fnBetweenUptoCard
end Rows
end Go.Proofs.YtbnkiibjhfcffaaGreatDoor
