/-
  DERIVED. GIVEN WITH THE SEED: THE CARDS: each row of YtacpimajiojekaaDoorRows.lean that lists a variable, with what it lists TIED to the program's text (the seventh form; the later family's looks); each row that meets fmt, with fmt's text TOLD by the authors' own Lean function (tested against real Go, not proved from fmt's source: count such statements apart). THE CARD IS WHAT COUNTS. Prove the row's statement (the work); the ties are given (YtacpimajiojekaaDoorTie.lean); close each card by the builder's one call (the guide's Derived/Test/ToyasCard.lean, 'card_holds'). Laid BY PROGRAM, IN A SANDBOX (cutbox-door.mjs). By AI agents, Wed Nov 11 2026. No macro, syntax, notation, axiom, sorry.
-/
import Derived.Test.YtacpimajiojekaaDoorRows
import GoSem.ClaimSeven
namespace Go.Proofs.YtacpimajiojekaaDoor
namespace Rows

/-- THE TIED CARD OF 'laws.FnExactPointText'. -/
def fnExactPointTextCard : Claim7 := { stood := { row := fnExactPointTextRow, standIns := [], harness := (true, "b769add0dea11261498096d915f23f4f2fbaacf71898114192d79d67593871e8"), looks := true }, kinds := [], alts := [], laidByText := true, laidKinds := [.data, .data, .data], laidTests := true, laidLooks := .later }
def FnExactPointTextCardSaid : Prop := Claim7.holds Tryd.pinned (.plain (OpenSpec.ofChange fnExactPointTextSpec)) fnExactPointTextCard

/-- THE TIED CARD OF 'laws.FnExactRingText'. -/
def fnExactRingTextCard : Claim7 := { stood := { row := fnExactRingTextRow, standIns := [], harness := (true, "b769add0dea11261498096d915f23f4f2fbaacf71898114192d79d67593871e8"), looks := true }, kinds := [], alts := [], laidByText := true, laidKinds := [.data, .data, .data], laidTests := true, laidLooks := .later }
def FnExactRingTextCardSaid : Prop := Claim7.holds Tryd.pinned (.plain (OpenSpec.ofChange fnExactRingTextSpec)) fnExactRingTextCard

/-- THE TIED CARD OF 'laws.FnExactReadPoint'. -/
def fnExactReadPointCard : Claim7 := { stood := { row := fnExactReadPointRow, standIns := [], harness := (true, "b769add0dea11261498096d915f23f4f2fbaacf71898114192d79d67593871e8"), looks := true }, kinds := [], alts := [], laidByText := true, laidKinds := [.data, .data, .data, .sentinel, .sentinel], laidTests := true, laidLooks := .later }
def FnExactReadPointCardSaid : Prop := Claim7.holds Tryd.pinned (.plain (OpenSpec.ofChange fnExactReadPointSpec)) fnExactReadPointCard

/-- THE TIED CARD OF 'laws.FnPointTexts'. -/
def fnPointTextsCard : Claim7 := { stood := { row := fnPointTextsRow, standIns := [], harness := (true, "b769add0dea11261498096d915f23f4f2fbaacf71898114192d79d67593871e8"), looks := true }, kinds := [], alts := [], laidByText := true, laidKinds := [.data, .data, .data, .sentinel, .sentinel], laidTests := true, laidLooks := .later }
def FnPointTextsCardSaid : Prop := Claim7.holds Tryd.pinned (.plain (OpenSpec.ofChange fnPointTextsSpec)) fnPointTextsCard

/-- THE TIED CARD OF 'laws.FnExactReadRing'. -/
def fnExactReadRingCard : Claim7 := { stood := { row := fnExactReadRingRow, standIns := [], harness := (true, "b769add0dea11261498096d915f23f4f2fbaacf71898114192d79d67593871e8"), looks := true }, kinds := [], alts := [], laidByText := true, laidKinds := [.data, .data, .data, .data, .sentinel, .sentinel, .pinned], laidTests := true, laidLooks := .later }
def FnExactReadRingCardSaid : Prop := Claim7.holds Tryd.pinned (.plain (OpenSpec.ofChange fnExactReadRingSpec)) fnExactReadRingCard

/-- THE TIED CARD OF 'laws.FnExactIsChange'. -/
def fnExactIsChangeCard : Claim7 := { stood := { row := fnExactIsChangeRow, standIns := [], harness := (true, "b769add0dea11261498096d915f23f4f2fbaacf71898114192d79d67593871e8"), looks := true }, kinds := [], alts := [], laidByText := true, laidKinds := [.data, .pinned], laidTests := true, laidLooks := .later }
def FnExactIsChangeCardSaid : Prop := Claim7.holds Tryd.pinned (.plain (OpenSpec.ofChange fnExactIsChangeSpec)) fnExactIsChangeCard

/-- THE TIED CARD OF 'laws.FnExactChangeText'. -/
def fnExactChangeTextCard : Claim7 := { stood := { row := fnExactChangeTextRow, standIns := [], harness := (true, "b769add0dea11261498096d915f23f4f2fbaacf71898114192d79d67593871e8"), looks := true }, kinds := [], alts := [], laidByText := true, laidKinds := [.data, .data, .data, .data, .pinned], laidTests := true, laidLooks := .later }
def FnExactChangeTextCardSaid : Prop := Claim7.holds Tryd.pinned (.plain (OpenSpec.ofChange fnExactChangeTextSpec)) fnExactChangeTextCard

/-- THE SECOND FORM's CARD OF 'laws.FnExactPointText'. -/
def fnExactPointTextUptoCard : Claim7 := { stood := { row := fnExactPointTextUptoRow, standIns := [], harness := (true, "b769add0dea11261498096d915f23f4f2fbaacf71898114192d79d67593871e8"), looks := true }, kinds := [], alts := [], laidByText := true, laidKinds := [.data, .data, .data], laidTests := true, laidLooks := .later }
def FnExactPointTextUptoCardSaid : Prop := Claim7.holds Tryd.pinned (.plain (OpenSpec.upto fnExactPointTextSpec)) fnExactPointTextUptoCard

/-- THE SECOND FORM's CARD OF 'laws.FnExactRingText'. -/
def fnExactRingTextUptoCard : Claim7 := { stood := { row := fnExactRingTextUptoRow, standIns := [], harness := (true, "b769add0dea11261498096d915f23f4f2fbaacf71898114192d79d67593871e8"), looks := true }, kinds := [], alts := [], laidByText := true, laidKinds := [.data, .data, .data], laidTests := true, laidLooks := .later }
def FnExactRingTextUptoCardSaid : Prop := Claim7.holds Tryd.pinned (.plain (OpenSpec.upto fnExactRingTextSpec)) fnExactRingTextUptoCard

/-- THE SECOND FORM's CARD OF 'laws.FnExactReadPoint'. -/
def fnExactReadPointUptoCard : Claim7 := { stood := { row := fnExactReadPointUptoRow, standIns := [], harness := (true, "b769add0dea11261498096d915f23f4f2fbaacf71898114192d79d67593871e8"), looks := true }, kinds := [], alts := [], laidByText := true, laidKinds := [.data, .data, .data, .sentinel, .sentinel], laidTests := true, laidLooks := .later }
def FnExactReadPointUptoCardSaid : Prop := Claim7.holds Tryd.pinned (.plain (OpenSpec.upto fnExactReadPointSpec)) fnExactReadPointUptoCard

/-- THE SECOND FORM's CARD OF 'laws.FnPointTexts'. -/
def fnPointTextsUptoCard : Claim7 := { stood := { row := fnPointTextsUptoRow, standIns := [], harness := (true, "b769add0dea11261498096d915f23f4f2fbaacf71898114192d79d67593871e8"), looks := true }, kinds := [], alts := [], laidByText := true, laidKinds := [.data, .data, .data, .sentinel, .sentinel], laidTests := true, laidLooks := .later }
def FnPointTextsUptoCardSaid : Prop := Claim7.holds Tryd.pinned (.plain (OpenSpec.upto fnPointTextsSpec)) fnPointTextsUptoCard

/-- THE SECOND FORM's CARD OF 'laws.FnExactReadRing'. -/
def fnExactReadRingUptoCard : Claim7 := { stood := { row := fnExactReadRingUptoRow, standIns := [], harness := (true, "b769add0dea11261498096d915f23f4f2fbaacf71898114192d79d67593871e8"), looks := true }, kinds := [], alts := [], laidByText := true, laidKinds := [.data, .data, .data, .data, .sentinel, .sentinel, .pinned], laidTests := true, laidLooks := .later }
def FnExactReadRingUptoCardSaid : Prop := Claim7.holds Tryd.pinned (.plain (OpenSpec.upto fnExactReadRingSpec)) fnExactReadRingUptoCard

/-- THE SECOND FORM's CARD OF 'laws.FnExactIsChange'. -/
def fnExactIsChangeUptoCard : Claim7 := { stood := { row := fnExactIsChangeUptoRow, standIns := [], harness := (true, "b769add0dea11261498096d915f23f4f2fbaacf71898114192d79d67593871e8"), looks := true }, kinds := [], alts := [], laidByText := true, laidKinds := [.data, .pinned], laidTests := true, laidLooks := .later }
def FnExactIsChangeUptoCardSaid : Prop := Claim7.holds Tryd.pinned (.plain (OpenSpec.upto fnExactIsChangeSpec)) fnExactIsChangeUptoCard

/-- THE SECOND FORM's CARD OF 'laws.FnExactChangeText'. -/
def fnExactChangeTextUptoCard : Claim7 := { stood := { row := fnExactChangeTextUptoRow, standIns := [], harness := (true, "b769add0dea11261498096d915f23f4f2fbaacf71898114192d79d67593871e8"), looks := true }, kinds := [], alts := [], laidByText := true, laidKinds := [.data, .data, .data, .data, .pinned], laidTests := true, laidLooks := .later }
def FnExactChangeTextUptoCardSaid : Prop := Claim7.holds Tryd.pinned (.plain (OpenSpec.upto fnExactChangeTextSpec)) fnExactChangeTextUptoCard
end Rows
end Go.Proofs.YtacpimajiojekaaDoor
