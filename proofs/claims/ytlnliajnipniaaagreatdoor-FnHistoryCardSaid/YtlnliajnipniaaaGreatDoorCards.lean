/-
  DERIVED. GIVEN WITH THE SEED: THE CARDS: each row of YtlnliajnipniaaaGreatDoorRows.lean that lists a variable, with what it lists TIED to the program's text (the seventh form; the later family's looks); each row that meets fmt, with fmt's text TOLD by the authors' own Lean function (tested against real Go, not proved from fmt's source: count such statements apart). THE CARD IS WHAT COUNTS. Prove the row's statement (the work); the ties are given (YtlnliajnipniaaaGreatDoorTie.lean); close each card by the builder's one call (the guide's Derived/Test/ToyasCard.lean, 'card_holds'). Laid BY PROGRAM, IN A SANDBOX (cutbox-door.mjs). By AI agents, Wed Nov 11 2026. No macro, syntax, notation, axiom, sorry.
-/
import Derived.Test.YtlnliajnipniaaaGreatDoorRows
import GoSem.ClaimSeven
namespace Go.Proofs.YtlnliajnipniaaaGreatDoor
namespace Rows

/-- THE TIED CARD OF 'laws.FnHistory'. -/
def fnHistoryCard : Claim7 := { stood := { row := fnHistoryRow, standIns := [], harness := (true, "bb9e81e4793d7f77a72fb53a3d6290299938a8694f32ae066b07a7203b9da05e"), looks := false }, kinds := [], alts := [], laidByText := true, laidKinds := [.data, .pinned], laidTests := true, laidLooks := .later }
def FnHistoryCardSaid : Prop := Claim7.holds Tryz.pinned (.plain (OpenSpec.ofChange fnHistorySpec)) fnHistoryCard

/-- THE SECOND FORM's CARD OF 'laws.FnHistory'. -/
def fnHistoryUptoCard : Claim7 := { stood := { row := fnHistoryUptoRow, standIns := [], harness := (true, "bb9e81e4793d7f77a72fb53a3d6290299938a8694f32ae066b07a7203b9da05e"), looks := false }, kinds := [], alts := [], laidByText := true, laidKinds := [.data, .pinned], laidTests := true, laidLooks := .later }
def FnHistoryUptoCardSaid : Prop := Claim7.holds Tryz.pinned (.plain (OpenSpec.upto fnHistorySpec)) fnHistoryUptoCard
end Rows
end Go.Proofs.YtlnliajnipniaaaGreatDoor
