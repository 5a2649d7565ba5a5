/-
  DERIVED. GIVEN WITH THE SEED: THE CARDS: each row of YtdbheipjbjcikaaGreatDoorRows.lean that lists a variable, with what it lists TIED to the program's text (the seventh form; the later family's looks); each row that meets fmt, with fmt's text TOLD by the authors' own Lean function (tested against real Go, not proved from fmt's source: count such statements apart). THE CARD IS WHAT COUNTS. Prove the row's statement (the work); the ties are given (YtdbheipjbjcikaaGreatDoorTie.lean); close each card by the builder's one call (the guide's Derived/Test/ToyasCard.lean, 'card_holds'). Laid BY PROGRAM, IN A SANDBOX (cutbox-door.mjs). By AI agents, Wed Nov 11 2026. No macro, syntax, notation, axiom, sorry.
-/
import Derived.Test.YtdbheipjbjcikaaGreatDoorRows
import GoSem.ClaimSeven
namespace Go.Proofs.YtdbheipjbjcikaaGreatDoor
namespace Rows

/-- THE TIED CARD OF 'laws.FnExactReadChange'. -/
def fnExactReadChangeCard : Claim7 := { stood := { row := fnExactReadChangeRow, standIns := [], harness := (true, "fc36914408e9bcff49b082e0fefa7a260b0dde6e88f86980bb13999f15d538b5"), looks := true }, kinds := [], alts := [], laidByText := true, laidKinds := [.data, .data, .data, .data, .sentinel, .sentinel, .pinned], laidTests := true, laidLooks := .later }
def FnExactReadChangeCardSaid : Prop := Claim7.holds Tryz.pinned (.plain (OpenSpec.ofChange fnExactReadChangeSpec)) fnExactReadChangeCard

/-- THE TIED CARD OF 'laws.FnRingTexts'. -/
def fnRingTextsCard : Claim7 := { stood := { row := fnRingTextsRow, standIns := [], harness := (true, "fc36914408e9bcff49b082e0fefa7a260b0dde6e88f86980bb13999f15d538b5"), looks := true }, kinds := [], alts := [], laidByText := true, laidKinds := [.data, .data, .data, .data, .sentinel, .sentinel, .pinned], laidTests := true, laidLooks := .later }
def FnRingTextsCardSaid : Prop := Claim7.holds Tryz.pinned (.plain (OpenSpec.ofChange fnRingTextsSpec)) fnRingTextsCard

/-- THE TIED CARD OF 'laws.FnChangeTexts'. -/
def fnChangeTextsCard : Claim7 := { stood := { row := fnChangeTextsRow, standIns := [], harness := (true, "fc36914408e9bcff49b082e0fefa7a260b0dde6e88f86980bb13999f15d538b5"), looks := true }, kinds := [], alts := [], laidByText := true, laidKinds := [.data, .data, .data, .data, .sentinel, .sentinel, .pinned], laidTests := true, laidLooks := .later }
def FnChangeTextsCardSaid : Prop := Claim7.holds Tryz.pinned (.plain (OpenSpec.ofChange fnChangeTextsSpec)) fnChangeTextsCard

/-- THE TIED CARD OF 'laws.FnExactAreViews'. -/
def fnExactAreViewsCard : Claim7 := { stood := { row := fnExactAreViewsRow, standIns := [], harness := (true, "fc36914408e9bcff49b082e0fefa7a260b0dde6e88f86980bb13999f15d538b5"), looks := true }, kinds := [], alts := [], laidByText := true, laidKinds := [.data, .pinned], laidTests := true, laidLooks := .later }
def FnExactAreViewsCardSaid : Prop := Claim7.holds Tryz.pinned (.plain (OpenSpec.ofChange fnExactAreViewsSpec)) fnExactAreViewsCard

/-- THE TIED CARD OF 'laws.FnExactAreaOf'. -/
def fnExactAreaOfCard : Claim7 := { stood := { row := fnExactAreaOfRow, standIns := [], harness := (true, "fc36914408e9bcff49b082e0fefa7a260b0dde6e88f86980bb13999f15d538b5"), looks := true }, kinds := [], alts := [], laidByText := true, laidKinds := [.data, .pinned], laidTests := true, laidLooks := .later }
def FnExactAreaOfCardSaid : Prop := Claim7.holds Tryz.pinned (.plain (OpenSpec.ofChange fnExactAreaOfSpec)) fnExactAreaOfCard

/-- THE TIED CARD OF 'laws.FnExactDistanceOfViews'. -/
def fnExactDistanceOfViewsCard : Claim7 := { stood := { row := fnExactDistanceOfViewsRow, standIns := [], harness := (true, "fc36914408e9bcff49b082e0fefa7a260b0dde6e88f86980bb13999f15d538b5"), looks := true }, kinds := [], alts := [], laidByText := true, laidKinds := [.data, .pinned], laidTests := true, laidLooks := .later }
def FnExactDistanceOfViewsCardSaid : Prop := Claim7.holds Tryz.pinned (.plain (OpenSpec.ofChange fnExactDistanceOfViewsSpec)) fnExactDistanceOfViewsCard

/-- THE TIED CARD OF 'laws.FnExactDisputedArea'. -/
def fnExactDisputedAreaCard : Claim7 := { stood := { row := fnExactDisputedAreaRow, standIns := [], harness := (true, "fc36914408e9bcff49b082e0fefa7a260b0dde6e88f86980bb13999f15d538b5"), looks := true }, kinds := [], alts := [], laidByText := true, laidKinds := [.data, .pinned], laidTests := true, laidLooks := .later }
def FnExactDisputedAreaCardSaid : Prop := Claim7.holds Tryz.pinned (.plain (OpenSpec.ofChange fnExactDisputedAreaSpec)) fnExactDisputedAreaCard

/-- THE TIED CARD OF 'laws.FnExactMajorityView'. -/
def fnExactMajorityViewCard : Claim7 := { stood := { row := fnExactMajorityViewRow, standIns := [], harness := (true, "fc36914408e9bcff49b082e0fefa7a260b0dde6e88f86980bb13999f15d538b5"), looks := true }, kinds := [], alts := [], laidByText := true, laidKinds := [.data, .pinned], laidTests := true, laidLooks := .later }
def FnExactMajorityViewCardSaid : Prop := Claim7.holds Tryz.pinned (.plain (OpenSpec.ofChange fnExactMajorityViewSpec)) fnExactMajorityViewCard

/-- THE TIED CARD OF 'laws.FnExactOwnersAt'. -/
def fnExactOwnersAtCard : Claim7 := { stood := { row := fnExactOwnersAtRow, standIns := [], harness := (true, "fc36914408e9bcff49b082e0fefa7a260b0dde6e88f86980bb13999f15d538b5"), looks := true }, kinds := [], alts := [], laidByText := true, laidKinds := [.data, .pinned], laidTests := true, laidLooks := .later }
def FnExactOwnersAtCardSaid : Prop := Claim7.holds Tryz.pinned (.plain (OpenSpec.ofChange fnExactOwnersAtSpec)) fnExactOwnersAtCard

/-- THE SECOND FORM's CARD OF 'laws.FnExactReadChange'. -/
def fnExactReadChangeUptoCard : Claim7 := { stood := { row := fnExactReadChangeUptoRow, standIns := [], harness := (true, "fc36914408e9bcff49b082e0fefa7a260b0dde6e88f86980bb13999f15d538b5"), looks := true }, kinds := [], alts := [], laidByText := true, laidKinds := [.data, .data, .data, .data, .sentinel, .sentinel, .pinned], laidTests := true, laidLooks := .later }
def FnExactReadChangeUptoCardSaid : Prop := Claim7.holds Tryz.pinned (.plain (OpenSpec.upto fnExactReadChangeSpec)) fnExactReadChangeUptoCard

/-- THE SECOND FORM's CARD OF 'laws.FnRingTexts'. -/
def fnRingTextsUptoCard : Claim7 := { stood := { row := fnRingTextsUptoRow, standIns := [], harness := (true, "fc36914408e9bcff49b082e0fefa7a260b0dde6e88f86980bb13999f15d538b5"), looks := true }, kinds := [], alts := [], laidByText := true, laidKinds := [.data, .data, .data, .data, .sentinel, .sentinel, .pinned], laidTests := true, laidLooks := .later }
def FnRingTextsUptoCardSaid : Prop := Claim7.holds Tryz.pinned (.plain (OpenSpec.upto fnRingTextsSpec)) fnRingTextsUptoCard

/-- THE SECOND FORM's CARD OF 'laws.FnChangeTexts'. -/
def fnChangeTextsUptoCard : Claim7 := { stood := { row := fnChangeTextsUptoRow, standIns := [], harness := (true, "fc36914408e9bcff49b082e0fefa7a260b0dde6e88f86980bb13999f15d538b5"), looks := true }, kinds := [], alts := [], laidByText := true, laidKinds := [.data, .data, .data, .data, .sentinel, .sentinel, .pinned], laidTests := true, laidLooks := .later }
def FnChangeTextsUptoCardSaid : Prop := Claim7.holds Tryz.pinned (.plain (OpenSpec.upto fnChangeTextsSpec)) fnChangeTextsUptoCard

/-- THE SECOND FORM's CARD OF 'laws.FnExactAreViews'. -/
def fnExactAreViewsUptoCard : Claim7 := { stood := { row := fnExactAreViewsUptoRow, standIns := [], harness := (true, "fc36914408e9bcff49b082e0fefa7a260b0dde6e88f86980bb13999f15d538b5"), looks := true }, kinds := [], alts := [], laidByText := true, laidKinds := [.data, .pinned], laidTests := true, laidLooks := .later }
def FnExactAreViewsUptoCardSaid : Prop := Claim7.holds Tryz.pinned (.plain (OpenSpec.upto fnExactAreViewsSpec)) fnExactAreViewsUptoCard

/-- THE SECOND FORM's CARD OF 'laws.FnExactAreaOf'. -/
def fnExactAreaOfUptoCard : Claim7 := { stood := { row := fnExactAreaOfUptoRow, standIns := [], harness := (true, "fc36914408e9bcff49b082e0fefa7a260b0dde6e88f86980bb13999f15d538b5"), looks := true }, kinds := [], alts := [], laidByText := true, laidKinds := [.data, .pinned], laidTests := true, laidLooks := .later }
def FnExactAreaOfUptoCardSaid : Prop := Claim7.holds Tryz.pinned (.plain (OpenSpec.upto fnExactAreaOfSpec)) fnExactAreaOfUptoCard

/-- THE SECOND FORM's CARD OF 'laws.FnExactDistanceOfViews'. -/
def fnExactDistanceOfViewsUptoCard : Claim7 := { stood := { row := fnExactDistanceOfViewsUptoRow, standIns := [], harness := (true, "fc36914408e9bcff49b082e0fefa7a260b0dde6e88f86980bb13999f15d538b5"), looks := true }, kinds := [], alts := [], laidByText := true, laidKinds := [.data, .pinned], laidTests := true, laidLooks := .later }
def FnExactDistanceOfViewsUptoCardSaid : Prop := Claim7.holds Tryz.pinned (.plain (OpenSpec.upto fnExactDistanceOfViewsSpec)) fnExactDistanceOfViewsUptoCard

/-- THE SECOND FORM's CARD OF 'laws.FnExactDisputedArea'. -/
def fnExactDisputedAreaUptoCard : Claim7 := { stood := { row := fnExactDisputedAreaUptoRow, standIns := [], harness := (true, "fc36914408e9bcff49b082e0fefa7a260b0dde6e88f86980bb13999f15d538b5"), looks := true }, kinds := [], alts := [], laidByText := true, laidKinds := [.data, .pinned], laidTests := true, laidLooks := .later }
def FnExactDisputedAreaUptoCardSaid : Prop := Claim7.holds Tryz.pinned (.plain (OpenSpec.upto fnExactDisputedAreaSpec)) fnExactDisputedAreaUptoCard

/-- THE SECOND FORM's CARD OF 'laws.FnExactMajorityView'. -/
def fnExactMajorityViewUptoCard : Claim7 := { stood := { row := fnExactMajorityViewUptoRow, standIns := [], harness := (true, "fc36914408e9bcff49b082e0fefa7a260b0dde6e88f86980bb13999f15d538b5"), looks := true }, kinds := [], alts := [], laidByText := true, laidKinds := [.data, .pinned], laidTests := true, laidLooks := .later }
def FnExactMajorityViewUptoCardSaid : Prop := Claim7.holds Tryz.pinned (.plain (OpenSpec.upto fnExactMajorityViewSpec)) fnExactMajorityViewUptoCard

/-- THE SECOND FORM's CARD OF 'laws.FnExactOwnersAt'. -/
def fnExactOwnersAtUptoCard : Claim7 := { stood := { row := fnExactOwnersAtUptoRow, standIns := [], harness := (true, "fc36914408e9bcff49b082e0fefa7a260b0dde6e88f86980bb13999f15d538b5"), looks := true }, kinds := [], alts := [], laidByText := true, laidKinds := [.data, .pinned], laidTests := true, laidLooks := .later }
def FnExactOwnersAtUptoCardSaid : Prop := Claim7.holds Tryz.pinned (.plain (OpenSpec.upto fnExactOwnersAtSpec)) fnExactOwnersAtUptoCard
end Rows
end Go.Proofs.YtdbheipjbjcikaaGreatDoor
