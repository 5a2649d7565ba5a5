/-
  DERIVED. GIVEN WITH THE SEED: THE CARDS: each row of YtjjhhclaapifbaaDoorRows.lean that lists a variable, with what it lists TIED to the program's text (the seventh form; the later family's looks); each row that meets fmt, with fmt's text TOLD by the authors' own Lean function (tested against real Go, not proved from fmt's source: count such statements apart). THE CARD IS WHAT COUNTS. Prove the row's statement (the work); the ties are given (YtjjhhclaapifbaaDoorTie.lean); close each card by the builder's one call (the guide's Derived/Test/ToyasCard.lean, 'card_holds'). Laid BY PROGRAM, IN A SANDBOX (cutbox-door.mjs). By AI agents, Wed Nov 11 2026. No macro, syntax, notation, axiom, sorry.
-/
import Derived.Test.YtjjhhclaapifbaaDoorRows
import GoSem.ClaimSeven
namespace Go.Proofs.YtjjhhclaapifbaaDoor
namespace Rows

/-- THE TIED CARD OF 'laws.FnExactInsideIn'. -/
def fnExactInsideInCard : Claim7 := { stood := { row := fnExactInsideInRow, standIns := [], harness := (true, "117a197325e3a45ddccd51af1703ffc2d65c6f8e7b94deb85ab6a0bf1a8d4323"), looks := false }, kinds := [], alts := [], laidByText := true, laidKinds := [.data, .pinned], laidTests := true, laidLooks := .later }
def FnExactInsideInCardSaid : Prop := Claim7.holds Tryd.pinned (.plain (OpenSpec.ofChange fnExactInsideInSpec)) fnExactInsideInCard

/-- THE TIED CARD OF 'laws.FnExactChildrenIn'. -/
def fnExactChildrenInCard : Claim7 := { stood := { row := fnExactChildrenInRow, standIns := [], harness := (true, "117a197325e3a45ddccd51af1703ffc2d65c6f8e7b94deb85ab6a0bf1a8d4323"), looks := false }, kinds := [], alts := [], laidByText := true, laidKinds := [.data, .pinned], laidTests := true, laidLooks := .later }
def FnExactChildrenInCardSaid : Prop := Claim7.holds Tryd.pinned (.plain (OpenSpec.ofChange fnExactChildrenInSpec)) fnExactChildrenInCard

/-- THE SECOND FORM's CARD OF 'laws.FnExactInsideIn'. -/
def fnExactInsideInUptoCard : Claim7 := { stood := { row := fnExactInsideInUptoRow, standIns := [], harness := (true, "117a197325e3a45ddccd51af1703ffc2d65c6f8e7b94deb85ab6a0bf1a8d4323"), looks := false }, kinds := [], alts := [], laidByText := true, laidKinds := [.data, .pinned], laidTests := true, laidLooks := .later }
def FnExactInsideInUptoCardSaid : Prop := Claim7.holds Tryd.pinned (.plain (OpenSpec.upto fnExactInsideInSpec)) fnExactInsideInUptoCard

/-- THE SECOND FORM's CARD OF 'laws.FnExactChildrenIn'. -/
def fnExactChildrenInUptoCard : Claim7 := { stood := { row := fnExactChildrenInUptoRow, standIns := [], harness := (true, "117a197325e3a45ddccd51af1703ffc2d65c6f8e7b94deb85ab6a0bf1a8d4323"), looks := false }, kinds := [], alts := [], laidByText := true, laidKinds := [.data, .pinned], laidTests := true, laidLooks := .later }
def FnExactChildrenInUptoCardSaid : Prop := Claim7.holds Tryd.pinned (.plain (OpenSpec.upto fnExactChildrenInSpec)) fnExactChildrenInUptoCard
end Rows
end Go.Proofs.YtjjhhclaapifbaaDoor
