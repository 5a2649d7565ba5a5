/-
  NARROWER THAN 'FOR EVERY INPUT', by the rows' own cells (each row's printed sentence says how): FnExactReadChange: laid · FnRingTexts: laid · FnChangeTexts: laid · FnExactAreViews: laid · FnExactAreaOf: laid · FnExactDistanceOfViews: laid · FnExactDisputedArea: laid · FnExactMajorityView: laid · FnExactOwnersAt: laid.
  DERIVED. THE GIVEN ROWS OF THIS SEAT. 9 by the template 'for every input the law returns true; each argument reads behind the call as it read before'; 0 by the template 'total and deterministic' (their statements: YtdbheipjbjcikaaGreatDoorTotals.lean).
  GIVEN WITH THE SEED: the statements are not yours to turn. If you find one false, say at which input.
  Laid BY PROGRAM, IN A SANDBOX (cutbox-rows.mjs): the forced cells as the released guide's own fill.sh prints them over the translation a820dd38968dfc97… (all of the seat's roots in one cut). By AI agents, Wed Nov 11 2026. No macro, syntax, notation, axiom, sorry.
-/
import Derived.Test.YtdbheipjbjcikaaGreatDoorChecked
import GoSem.PinnedTables
import GoSem.Claim
import GoSem.ClaimJoined
import GoSem.ClaimMapViews
import Derived.JoinedTies
import Derived.KernelRfl
namespace Go.Proofs.YtdbheipjbjcikaaGreatDoor
/- THE CELL 'sum', in the pinned program and in every row, IS THE sha256 OF THE DUMP (.gsa) THAT YtdbheipjbjcikaaGreatDoorProg.lean LOADS. Nothing in Lean hashes anything: it is a label: what it is worth is what the hold of that sum in a sandbox is worth. -/
noncomputable def Tryz.pinned : Pinned := { name := "ytdbheipjbjcikaagreatdoor", sum := "a820dd38968dfc9792dabb30de4928ac1e55fcabef6ea617de61db3277f8b6ae", checked := Tryz.checked }
namespace Rows
def none {H : Type} : Left H := { results := [], args := [] }

/- WHAT THE LISTED PACKAGE-LEVEL VARIABLES READ AS WHEN THE CALL BEGINS. Each datum BY PROGRAM (the guide's laid-datum.mjs) off the statement by which the dump's own 'gosem.cut.vars' lays the variable. In a bare row this is a premise. The card (YtdbheipjbjcikaaGreatDoorCards.lean) ties it to the program's text. -/
def laid_math_bits_deBruijn32tab {H : Type} : DataW H := .agg [.lit (.int .u8 0), .lit (.int .u8 1), .lit (.int .u8 28), .lit (.int .u8 2), .lit (.int .u8 29), .lit (.int .u8 14), .lit (.int .u8 24), .lit (.int .u8 3), .lit (.int .u8 30), .lit (.int .u8 22), .lit (.int .u8 20), .lit (.int .u8 15), .lit (.int .u8 25), .lit (.int .u8 17), .lit (.int .u8 4), .lit (.int .u8 8), .lit (.int .u8 31), .lit (.int .u8 27), .lit (.int .u8 13), .lit (.int .u8 23), .lit (.int .u8 21), .lit (.int .u8 19), .lit (.int .u8 16), .lit (.int .u8 7), .lit (.int .u8 26), .lit (.int .u8 12), .lit (.int .u8 18), .lit (.int .u8 6), .lit (.int .u8 11), .lit (.int .u8 5), .lit (.int .u8 10), .lit (.int .u8 9)]
def laid_math_bits_deBruijn64tab {H : Type} : DataW H := .agg [.lit (.int .u8 0), .lit (.int .u8 1), .lit (.int .u8 56), .lit (.int .u8 2), .lit (.int .u8 57), .lit (.int .u8 49), .lit (.int .u8 28), .lit (.int .u8 3), .lit (.int .u8 61), .lit (.int .u8 58), .lit (.int .u8 42), .lit (.int .u8 50), .lit (.int .u8 38), .lit (.int .u8 29), .lit (.int .u8 17), .lit (.int .u8 4), .lit (.int .u8 62), .lit (.int .u8 47), .lit (.int .u8 59), .lit (.int .u8 36), .lit (.int .u8 45), .lit (.int .u8 43), .lit (.int .u8 51), .lit (.int .u8 22), .lit (.int .u8 53), .lit (.int .u8 39), .lit (.int .u8 33), .lit (.int .u8 30), .lit (.int .u8 24), .lit (.int .u8 18), .lit (.int .u8 12), .lit (.int .u8 5), .lit (.int .u8 63), .lit (.int .u8 55), .lit (.int .u8 48), .lit (.int .u8 27), .lit (.int .u8 60), .lit (.int .u8 41), .lit (.int .u8 37), .lit (.int .u8 16), .lit (.int .u8 46), .lit (.int .u8 35), .lit (.int .u8 44), .lit (.int .u8 21), .lit (.int .u8 52), .lit (.int .u8 32), .lit (.int .u8 23), .lit (.int .u8 11), .lit (.int .u8 54), .lit (.int .u8 26), .lit (.int .u8 40), .lit (.int .u8 15), .lit (.int .u8 34), .lit (.int .u8 20), .lit (.int .u8 31), .lit (.int .u8 10), .lit (.int .u8 25), .lit (.int .u8 14), .lit (.int .u8 19), .lit (.int .u8 9), .lit (.int .u8 13), .lit (.int .u8 8), .lit (.int .u8 7), .lit (.int .u8 6)]
def laid_internal_strconv_uint64pow10 {H : Type} : DataW H := .agg [.lit (.int .u64 1), .lit (.int .u64 10), .lit (.int .u64 100), .lit (.int .u64 1000), .lit (.int .u64 10000), .lit (.int .u64 100000), .lit (.int .u64 1000000), .lit (.int .u64 10000000), .lit (.int .u64 100000000), .lit (.int .u64 1000000000), .lit (.int .u64 10000000000), .lit (.int .u64 100000000000), .lit (.int .u64 1000000000000), .lit (.int .u64 10000000000000), .lit (.int .u64 100000000000000), .lit (.int .u64 1000000000000000), .lit (.int .u64 10000000000000000), .lit (.int .u64 100000000000000000), .lit (.int .u64 1000000000000000000), .lit (.int .u64 10000000000000000000)]
def laid_unicode_utf8_acceptRanges {H : Type} : DataW H := .agg [.agg [.lit (.int .u8 128), .lit (.int .u8 191)], .agg [.lit (.int .u8 160), .lit (.int .u8 191)], .agg [.lit (.int .u8 128), .lit (.int .u8 159)], .agg [.lit (.int .u8 144), .lit (.int .u8 191)], .agg [.lit (.int .u8 128), .lit (.int .u8 143)], .agg [.lit (.int .u8 0), .lit (.int .u8 0)], .agg [.lit (.int .u8 0), .lit (.int .u8 0)], .agg [.lit (.int .u8 0), .lit (.int .u8 0)], .agg [.lit (.int .u8 0), .lit (.int .u8 0)], .agg [.lit (.int .u8 0), .lit (.int .u8 0)], .agg [.lit (.int .u8 0), .lit (.int .u8 0)], .agg [.lit (.int .u8 0), .lit (.int .u8 0)], .agg [.lit (.int .u8 0), .lit (.int .u8 0)], .agg [.lit (.int .u8 0), .lit (.int .u8 0)], .agg [.lit (.int .u8 0), .lit (.int .u8 0)], .agg [.lit (.int .u8 0), .lit (.int .u8 0)]]
def laid_strconv_ErrRange {H : Type} : DataW H := .iface "*errors.errorString" (.ptr (.agg [.lit (.string [118, 97, 108, 117, 101, 32, 111, 117, 116, 32, 111, 102, 32, 114, 97, 110, 103, 101])]))
def laid_strconv_ErrSyntax {H : Type} : DataW H := .iface "*errors.errorString" (.ptr (.agg [.lit (.string [105, 110, 118, 97, 108, 105, 100, 32, 115, 121, 110, 116, 97, 120])]))
/-- One of Go's own tables, pinned by name: the form's constant. -/
def laid_unicode_utf8_first : DataW Unit := Go.Pinned.utf8First

/-- 'laws.FnExactReadChange': WHATEVER THE INPUT: true; the input reads as it did. -/
def fnExactReadChangeSpec : ChangeSpec := { name := "fnExactReadChange", fn := fun _ => fun
  | [d] => { results := [.lit (.bool true)], args := [d] }
  | _ => none }
def fnExactReadChangeRow : OpenClaim := { program := "ytdbheipjbjcikaagreatdoor", sum := "a820dd38968dfc9792dabb30de4928ac1e55fcabef6ea617de61db3277f8b6ae", func := "loop.example/g01030/laws.FnExactReadChange", spec := "fnExactReadChange", inPlace := ["internal/bytealg.CountString", "internal/bytealg.IndexByteString", "internal/bytealg.IndexString", "internal/abi.NoEscape", "internal/bytealg.MakeNoZero"], recurses := true, named := ["unicode/utf8.first", "unicode/utf8.acceptRanges", "internal/bytealg.MaxLen", "strconv.ErrSyntax", "strconv.ErrRange", "internal/strconv.uint64pow10", "math/bits.deBruijn32tab", "math/bits.deBruijn64tab"], apart := false, laid := [("math/bits.deBruijn32tab", laid_math_bits_deBruijn32tab), ("math/bits.deBruijn64tab", laid_math_bits_deBruijn64tab), ("internal/strconv.uint64pow10", laid_internal_strconv_uint64pow10), ("unicode/utf8.acceptRanges", laid_unicode_utf8_acceptRanges), ("strconv.ErrRange", laid_strconv_ErrRange), ("strconv.ErrSyntax", laid_strconv_ErrSyntax), ("unicode/utf8.first", laid_unicode_utf8_first)] }
def FnExactReadChangeSaid : Prop := fnExactReadChangeRow.holds Tryz.pinned (OpenSpec.ofChange fnExactReadChangeSpec)

/-- ITS FALSE NEIGHBOUR: 'it returns false'. Refute it at one input. -/
def fnExactReadChangeWrong : ChangeSpec := { name := "fnExactReadChange", fn := fun _ => fun
  | [d] => { results := [.lit (.bool false)], args := [d] }
  | _ => none }
def FnExactReadChangeWrongFalsely : Prop := fnExactReadChangeRow.holds Tryz.pinned (OpenSpec.ofChange fnExactReadChangeWrong)

/-- 'laws.FnRingTexts': WHATEVER THE INPUT: true; the input reads as it did. -/
def fnRingTextsSpec : ChangeSpec := { name := "fnRingTexts", fn := fun _ => fun
  | [d] => { results := [.lit (.bool true)], args := [d] }
  | _ => none }
def fnRingTextsRow : OpenClaim := { program := "ytdbheipjbjcikaagreatdoor", sum := "a820dd38968dfc9792dabb30de4928ac1e55fcabef6ea617de61db3277f8b6ae", func := "loop.example/g01030/laws.FnRingTexts", spec := "fnRingTexts", inPlace := ["internal/abi.NoEscape", "internal/bytealg.MakeNoZero", "internal/bytealg.CountString", "internal/bytealg.IndexByteString", "internal/bytealg.IndexString"], recurses := true, named := ["internal/strconv.uint64pow10", "math/bits.deBruijn32tab", "math/bits.deBruijn64tab", "unicode/utf8.first", "unicode/utf8.acceptRanges", "internal/bytealg.MaxLen", "strconv.ErrSyntax", "strconv.ErrRange"], apart := false, laid := [("math/bits.deBruijn32tab", laid_math_bits_deBruijn32tab), ("math/bits.deBruijn64tab", laid_math_bits_deBruijn64tab), ("internal/strconv.uint64pow10", laid_internal_strconv_uint64pow10), ("unicode/utf8.acceptRanges", laid_unicode_utf8_acceptRanges), ("strconv.ErrRange", laid_strconv_ErrRange), ("strconv.ErrSyntax", laid_strconv_ErrSyntax), ("unicode/utf8.first", laid_unicode_utf8_first)] }
def FnRingTextsSaid : Prop := fnRingTextsRow.holds Tryz.pinned (OpenSpec.ofChange fnRingTextsSpec)

/-- ITS FALSE NEIGHBOUR: 'it returns false'. Refute it at one input. -/
def fnRingTextsWrong : ChangeSpec := { name := "fnRingTexts", fn := fun _ => fun
  | [d] => { results := [.lit (.bool false)], args := [d] }
  | _ => none }
def FnRingTextsWrongFalsely : Prop := fnRingTextsRow.holds Tryz.pinned (OpenSpec.ofChange fnRingTextsWrong)

/-- 'laws.FnChangeTexts': WHATEVER THE INPUT: true; the input reads as it did. -/
def fnChangeTextsSpec : ChangeSpec := { name := "fnChangeTexts", fn := fun _ => fun
  | [d] => { results := [.lit (.bool true)], args := [d] }
  | _ => none }
def fnChangeTextsRow : OpenClaim := { program := "ytdbheipjbjcikaagreatdoor", sum := "a820dd38968dfc9792dabb30de4928ac1e55fcabef6ea617de61db3277f8b6ae", func := "loop.example/g01030/laws.FnChangeTexts", spec := "fnChangeTexts", inPlace := ["internal/bytealg.IndexByteString", "internal/bytealg.IndexString", "internal/bytealg.CountString", "internal/abi.NoEscape", "internal/bytealg.MakeNoZero"], recurses := true, named := ["unicode/utf8.first", "unicode/utf8.acceptRanges", "internal/bytealg.MaxLen", "internal/strconv.uint64pow10", "math/bits.deBruijn32tab", "math/bits.deBruijn64tab", "strconv.ErrSyntax", "strconv.ErrRange"], apart := false, laid := [("math/bits.deBruijn32tab", laid_math_bits_deBruijn32tab), ("math/bits.deBruijn64tab", laid_math_bits_deBruijn64tab), ("internal/strconv.uint64pow10", laid_internal_strconv_uint64pow10), ("unicode/utf8.acceptRanges", laid_unicode_utf8_acceptRanges), ("strconv.ErrRange", laid_strconv_ErrRange), ("strconv.ErrSyntax", laid_strconv_ErrSyntax), ("unicode/utf8.first", laid_unicode_utf8_first)] }
def FnChangeTextsSaid : Prop := fnChangeTextsRow.holds Tryz.pinned (OpenSpec.ofChange fnChangeTextsSpec)

/-- ITS FALSE NEIGHBOUR: 'it returns false'. Refute it at one input. -/
def fnChangeTextsWrong : ChangeSpec := { name := "fnChangeTexts", fn := fun _ => fun
  | [d] => { results := [.lit (.bool false)], args := [d] }
  | _ => none }
def FnChangeTextsWrongFalsely : Prop := fnChangeTextsRow.holds Tryz.pinned (OpenSpec.ofChange fnChangeTextsWrong)

/-- 'laws.FnExactAreViews': WHATEVER THE INPUT: true; the input reads as it did. -/
def fnExactAreViewsSpec : ChangeSpec := { name := "fnExactAreViews", fn := fun _ => fun
  | [d1, d2] => { results := [.lit (.bool true)], args := [d1, d2] }
  | _ => none }
def fnExactAreViewsRow : OpenClaim := { program := "ytdbheipjbjcikaagreatdoor", sum := "a820dd38968dfc9792dabb30de4928ac1e55fcabef6ea617de61db3277f8b6ae", func := "loop.example/g01030/laws.FnExactAreViews", spec := "fnExactAreViews", inPlace := ["internal/bytealg.IndexByteString", "internal/bytealg.IndexString"], unfollowed := true, recurses := true, named := ["unicode/utf8.first", "unicode/utf8.acceptRanges", "internal/bytealg.MaxLen"], apart := false, laid := [("unicode/utf8.acceptRanges", laid_unicode_utf8_acceptRanges), ("unicode/utf8.first", laid_unicode_utf8_first)] }
def FnExactAreViewsSaid : Prop := fnExactAreViewsRow.holds Tryz.pinned (OpenSpec.ofChange fnExactAreViewsSpec)

/-- ITS FALSE NEIGHBOUR: 'it returns false'. Refute it at one input. -/
def fnExactAreViewsWrong : ChangeSpec := { name := "fnExactAreViews", fn := fun _ => fun
  | [d1, d2] => { results := [.lit (.bool false)], args := [d1, d2] }
  | _ => none }
def FnExactAreViewsWrongFalsely : Prop := fnExactAreViewsRow.holds Tryz.pinned (OpenSpec.ofChange fnExactAreViewsWrong)

/-- 'laws.FnExactAreaOf': WHATEVER THE INPUT: true; the input reads as it did. -/
def fnExactAreaOfSpec : ChangeSpec := { name := "fnExactAreaOf", fn := fun _ => fun
  | [d1, d2, d3, d4] => { results := [.lit (.bool true)], args := [d1, d2, d3, d4] }
  | _ => none }
def fnExactAreaOfRow : OpenClaim := { program := "ytdbheipjbjcikaagreatdoor", sum := "a820dd38968dfc9792dabb30de4928ac1e55fcabef6ea617de61db3277f8b6ae", func := "loop.example/g01030/laws.FnExactAreaOf", spec := "fnExactAreaOf", inPlace := ["internal/bytealg.IndexByteString", "internal/bytealg.IndexString"], unfollowed := true, recurses := true, named := ["unicode/utf8.first", "unicode/utf8.acceptRanges", "internal/bytealg.MaxLen"], apart := false, laid := [("unicode/utf8.acceptRanges", laid_unicode_utf8_acceptRanges), ("unicode/utf8.first", laid_unicode_utf8_first)] }
def FnExactAreaOfSaid : Prop := fnExactAreaOfRow.holds Tryz.pinned (OpenSpec.ofChange fnExactAreaOfSpec)

/-- ITS FALSE NEIGHBOUR: 'it returns false'. Refute it at one input. -/
def fnExactAreaOfWrong : ChangeSpec := { name := "fnExactAreaOf", fn := fun _ => fun
  | [d1, d2, d3, d4] => { results := [.lit (.bool false)], args := [d1, d2, d3, d4] }
  | _ => none }
def FnExactAreaOfWrongFalsely : Prop := fnExactAreaOfRow.holds Tryz.pinned (OpenSpec.ofChange fnExactAreaOfWrong)

/-- 'laws.FnExactDistanceOfViews': WHATEVER THE INPUT: true; the input reads as it did. -/
def fnExactDistanceOfViewsSpec : ChangeSpec := { name := "fnExactDistanceOfViews", fn := fun _ => fun
  | [d1, d2, d3, d4] => { results := [.lit (.bool true)], args := [d1, d2, d3, d4] }
  | _ => none }
def fnExactDistanceOfViewsRow : OpenClaim := { program := "ytdbheipjbjcikaagreatdoor", sum := "a820dd38968dfc9792dabb30de4928ac1e55fcabef6ea617de61db3277f8b6ae", func := "loop.example/g01030/laws.FnExactDistanceOfViews", spec := "fnExactDistanceOfViews", inPlace := ["internal/bytealg.IndexByteString", "internal/bytealg.IndexString"], unfollowed := true, recurses := true, named := ["unicode/utf8.first", "unicode/utf8.acceptRanges", "internal/bytealg.MaxLen"], apart := false, laid := [("unicode/utf8.acceptRanges", laid_unicode_utf8_acceptRanges), ("unicode/utf8.first", laid_unicode_utf8_first)] }
def FnExactDistanceOfViewsSaid : Prop := fnExactDistanceOfViewsRow.holds Tryz.pinned (OpenSpec.ofChange fnExactDistanceOfViewsSpec)

/-- ITS FALSE NEIGHBOUR: 'it returns false'. Refute it at one input. -/
def fnExactDistanceOfViewsWrong : ChangeSpec := { name := "fnExactDistanceOfViews", fn := fun _ => fun
  | [d1, d2, d3, d4] => { results := [.lit (.bool false)], args := [d1, d2, d3, d4] }
  | _ => none }
def FnExactDistanceOfViewsWrongFalsely : Prop := fnExactDistanceOfViewsRow.holds Tryz.pinned (OpenSpec.ofChange fnExactDistanceOfViewsWrong)

/-- 'laws.FnExactDisputedArea': WHATEVER THE INPUT: true; the input reads as it did. -/
def fnExactDisputedAreaSpec : ChangeSpec := { name := "fnExactDisputedArea", fn := fun _ => fun
  | [d1, d2] => { results := [.lit (.bool true)], args := [d1, d2] }
  | _ => none }
def fnExactDisputedAreaRow : OpenClaim := { program := "ytdbheipjbjcikaagreatdoor", sum := "a820dd38968dfc9792dabb30de4928ac1e55fcabef6ea617de61db3277f8b6ae", func := "loop.example/g01030/laws.FnExactDisputedArea", spec := "fnExactDisputedArea", inPlace := ["internal/bytealg.IndexByteString", "internal/bytealg.IndexString"], unfollowed := true, recurses := true, named := ["unicode/utf8.first", "unicode/utf8.acceptRanges", "internal/bytealg.MaxLen"], apart := false, laid := [("unicode/utf8.acceptRanges", laid_unicode_utf8_acceptRanges), ("unicode/utf8.first", laid_unicode_utf8_first)] }
def FnExactDisputedAreaSaid : Prop := fnExactDisputedAreaRow.holds Tryz.pinned (OpenSpec.ofChange fnExactDisputedAreaSpec)

/-- ITS FALSE NEIGHBOUR: 'it returns false'. Refute it at one input. -/
def fnExactDisputedAreaWrong : ChangeSpec := { name := "fnExactDisputedArea", fn := fun _ => fun
  | [d1, d2] => { results := [.lit (.bool false)], args := [d1, d2] }
  | _ => none }
def FnExactDisputedAreaWrongFalsely : Prop := fnExactDisputedAreaRow.holds Tryz.pinned (OpenSpec.ofChange fnExactDisputedAreaWrong)

/-- 'laws.FnExactMajorityView': WHATEVER THE INPUT: true; the input reads as it did. -/
def fnExactMajorityViewSpec : ChangeSpec := { name := "fnExactMajorityView", fn := fun _ => fun
  | [d1, d2] => { results := [.lit (.bool true)], args := [d1, d2] }
  | _ => none }
def fnExactMajorityViewRow : OpenClaim := { program := "ytdbheipjbjcikaagreatdoor", sum := "a820dd38968dfc9792dabb30de4928ac1e55fcabef6ea617de61db3277f8b6ae", func := "loop.example/g01030/laws.FnExactMajorityView", spec := "fnExactMajorityView", inPlace := ["internal/bytealg.IndexByteString", "internal/bytealg.IndexString"], unfollowed := true, recurses := true, named := ["unicode/utf8.first", "unicode/utf8.acceptRanges", "internal/bytealg.MaxLen"], apart := false, laid := [("unicode/utf8.acceptRanges", laid_unicode_utf8_acceptRanges), ("unicode/utf8.first", laid_unicode_utf8_first)] }
def FnExactMajorityViewSaid : Prop := fnExactMajorityViewRow.holds Tryz.pinned (OpenSpec.ofChange fnExactMajorityViewSpec)

/-- ITS FALSE NEIGHBOUR: 'it returns false'. Refute it at one input. -/
def fnExactMajorityViewWrong : ChangeSpec := { name := "fnExactMajorityView", fn := fun _ => fun
  | [d1, d2] => { results := [.lit (.bool false)], args := [d1, d2] }
  | _ => none }
def FnExactMajorityViewWrongFalsely : Prop := fnExactMajorityViewRow.holds Tryz.pinned (OpenSpec.ofChange fnExactMajorityViewWrong)

/-- 'laws.FnExactOwnersAt': WHATEVER THE INPUT: true; the input reads as it did. -/
def fnExactOwnersAtSpec : ChangeSpec := { name := "fnExactOwnersAt", fn := fun _ => fun
  | [d1, d2, d3] => { results := [.lit (.bool true)], args := [d1, d2, d3] }
  | _ => none }
def fnExactOwnersAtRow : OpenClaim := { program := "ytdbheipjbjcikaagreatdoor", sum := "a820dd38968dfc9792dabb30de4928ac1e55fcabef6ea617de61db3277f8b6ae", func := "loop.example/g01030/laws.FnExactOwnersAt", spec := "fnExactOwnersAt", inPlace := ["internal/bytealg.IndexByteString", "internal/bytealg.IndexString"], unfollowed := true, recurses := true, named := ["unicode/utf8.first", "unicode/utf8.acceptRanges", "internal/bytealg.MaxLen"], apart := false, laid := [("unicode/utf8.acceptRanges", laid_unicode_utf8_acceptRanges), ("unicode/utf8.first", laid_unicode_utf8_first)] }
def FnExactOwnersAtSaid : Prop := fnExactOwnersAtRow.holds Tryz.pinned (OpenSpec.ofChange fnExactOwnersAtSpec)

/-- ITS FALSE NEIGHBOUR: 'it returns false'. Refute it at one input. -/
def fnExactOwnersAtWrong : ChangeSpec := { name := "fnExactOwnersAt", fn := fun _ => fun
  | [d1, d2, d3] => { results := [.lit (.bool false)], args := [d1, d2, d3] }
  | _ => none }
def FnExactOwnersAtWrongFalsely : Prop := fnExactOwnersAtRow.holds Tryz.pinned (OpenSpec.ofChange fnExactOwnersAtWrong)

/- THE SECOND FORM. 'bulk': how many values and letters a reading holds, each counted each time it is reached (what is shared counts as often as it is met; a slice's spare places count too). A statement '..UptoSaid' is the law's where the arguments, and the package variables that the reading takes, are together of bulk at most 1048576: NARROWER than '..Said'. Prove '..Said' where nothing that the law and all that it calls make is longer than what came in: it says more and counts as full. Else prove '..UptoSaid'. A law counts once. -/
mutual
def uptoBulk {H : Type} : DataW H → Nat
  | .lit (.string bytes) => bytes.length + 1
  | .lit _ => 1
  | .nil => 1
  | .ptr d => uptoBulk d + 1
  | .slice elems spare => uptoBulkAll elems + uptoBulkAll spare + 1
  | .agg parts => uptoBulkAll parts + 1
  | .iface _ d => uptoBulk d + 1
  | .map entries => uptoBulkEntries entries + 1
  | .held _ => 1
def uptoBulkAll {H : Type} : List (DataW H) → Nat
  | [] => 0
  | d :: r => uptoBulk d + uptoBulkAll r
def uptoBulkEntries {H : Type} : List (Lit × DataW H) → Nat
  | [] => 0
  | x :: r => uptoBulkEntry x + uptoBulkEntries r
def uptoBulkEntry {H : Type} : Lit × DataW H → Nat
  | (.string bytes, d) => bytes.length + uptoBulk d + 1
  | (_, d) => uptoBulk d + 1
 end
def uptoSmall : (H : Type) → List (DataW H) → Bool := fun _ ds => decide (uptoBulkAll ds ≤ 1048576)
def OpenSpec.upto (s : _root_.Go.ChangeSpec) : _root_.Go.OpenSpec := { _root_.Go.OpenSpec.ofChange s with cond := some uptoSmall }

/-- 'laws.FnExactReadChange', WHERE WHAT IT READS IS OF BULK AT MOST 1048576: true; the input reads as it did. -/
def fnExactReadChangeUptoRow : OpenClaim := { program := "ytdbheipjbjcikaagreatdoor", sum := "a820dd38968dfc9792dabb30de4928ac1e55fcabef6ea617de61db3277f8b6ae", func := "loop.example/g01030/laws.FnExactReadChange", spec := "fnExactReadChange", inPlace := ["internal/bytealg.CountString", "internal/bytealg.IndexByteString", "internal/bytealg.IndexString", "internal/abi.NoEscape", "internal/bytealg.MakeNoZero"], recurses := true, named := ["unicode/utf8.first", "unicode/utf8.acceptRanges", "internal/bytealg.MaxLen", "strconv.ErrSyntax", "strconv.ErrRange", "internal/strconv.uint64pow10", "math/bits.deBruijn32tab", "math/bits.deBruijn64tab"], apart := false, laid := [("math/bits.deBruijn32tab", laid_math_bits_deBruijn32tab), ("math/bits.deBruijn64tab", laid_math_bits_deBruijn64tab), ("internal/strconv.uint64pow10", laid_internal_strconv_uint64pow10), ("unicode/utf8.acceptRanges", laid_unicode_utf8_acceptRanges), ("strconv.ErrRange", laid_strconv_ErrRange), ("strconv.ErrSyntax", laid_strconv_ErrSyntax), ("unicode/utf8.first", laid_unicode_utf8_first)], narrowed := true }
def FnExactReadChangeUptoSaid : Prop := fnExactReadChangeUptoRow.holds Tryz.pinned (OpenSpec.upto fnExactReadChangeSpec)

/-- 'laws.FnRingTexts', WHERE WHAT IT READS IS OF BULK AT MOST 1048576: true; the input reads as it did. -/
def fnRingTextsUptoRow : OpenClaim := { program := "ytdbheipjbjcikaagreatdoor", sum := "a820dd38968dfc9792dabb30de4928ac1e55fcabef6ea617de61db3277f8b6ae", func := "loop.example/g01030/laws.FnRingTexts", spec := "fnRingTexts", inPlace := ["internal/abi.NoEscape", "internal/bytealg.MakeNoZero", "internal/bytealg.CountString", "internal/bytealg.IndexByteString", "internal/bytealg.IndexString"], recurses := true, named := ["internal/strconv.uint64pow10", "math/bits.deBruijn32tab", "math/bits.deBruijn64tab", "unicode/utf8.first", "unicode/utf8.acceptRanges", "internal/bytealg.MaxLen", "strconv.ErrSyntax", "strconv.ErrRange"], apart := false, laid := [("math/bits.deBruijn32tab", laid_math_bits_deBruijn32tab), ("math/bits.deBruijn64tab", laid_math_bits_deBruijn64tab), ("internal/strconv.uint64pow10", laid_internal_strconv_uint64pow10), ("unicode/utf8.acceptRanges", laid_unicode_utf8_acceptRanges), ("strconv.ErrRange", laid_strconv_ErrRange), ("strconv.ErrSyntax", laid_strconv_ErrSyntax), ("unicode/utf8.first", laid_unicode_utf8_first)], narrowed := true }
def FnRingTextsUptoSaid : Prop := fnRingTextsUptoRow.holds Tryz.pinned (OpenSpec.upto fnRingTextsSpec)

/-- 'laws.FnChangeTexts', WHERE WHAT IT READS IS OF BULK AT MOST 1048576: true; the input reads as it did. -/
def fnChangeTextsUptoRow : OpenClaim := { program := "ytdbheipjbjcikaagreatdoor", sum := "a820dd38968dfc9792dabb30de4928ac1e55fcabef6ea617de61db3277f8b6ae", func := "loop.example/g01030/laws.FnChangeTexts", spec := "fnChangeTexts", inPlace := ["internal/bytealg.IndexByteString", "internal/bytealg.IndexString", "internal/bytealg.CountString", "internal/abi.NoEscape", "internal/bytealg.MakeNoZero"], recurses := true, named := ["unicode/utf8.first", "unicode/utf8.acceptRanges", "internal/bytealg.MaxLen", "internal/strconv.uint64pow10", "math/bits.deBruijn32tab", "math/bits.deBruijn64tab", "strconv.ErrSyntax", "strconv.ErrRange"], apart := false, laid := [("math/bits.deBruijn32tab", laid_math_bits_deBruijn32tab), ("math/bits.deBruijn64tab", laid_math_bits_deBruijn64tab), ("internal/strconv.uint64pow10", laid_internal_strconv_uint64pow10), ("unicode/utf8.acceptRanges", laid_unicode_utf8_acceptRanges), ("strconv.ErrRange", laid_strconv_ErrRange), ("strconv.ErrSyntax", laid_strconv_ErrSyntax), ("unicode/utf8.first", laid_unicode_utf8_first)], narrowed := true }
def FnChangeTextsUptoSaid : Prop := fnChangeTextsUptoRow.holds Tryz.pinned (OpenSpec.upto fnChangeTextsSpec)

/-- 'laws.FnExactAreViews', WHERE WHAT IT READS IS OF BULK AT MOST 1048576: true; the input reads as it did. -/
def fnExactAreViewsUptoRow : OpenClaim := { program := "ytdbheipjbjcikaagreatdoor", sum := "a820dd38968dfc9792dabb30de4928ac1e55fcabef6ea617de61db3277f8b6ae", func := "loop.example/g01030/laws.FnExactAreViews", spec := "fnExactAreViews", inPlace := ["internal/bytealg.IndexByteString", "internal/bytealg.IndexString"], unfollowed := true, recurses := true, named := ["unicode/utf8.first", "unicode/utf8.acceptRanges", "internal/bytealg.MaxLen"], apart := false, laid := [("unicode/utf8.acceptRanges", laid_unicode_utf8_acceptRanges), ("unicode/utf8.first", laid_unicode_utf8_first)], narrowed := true }
def FnExactAreViewsUptoSaid : Prop := fnExactAreViewsUptoRow.holds Tryz.pinned (OpenSpec.upto fnExactAreViewsSpec)

/-- 'laws.FnExactAreaOf', WHERE WHAT IT READS IS OF BULK AT MOST 1048576: true; the input reads as it did. -/
def fnExactAreaOfUptoRow : OpenClaim := { program := "ytdbheipjbjcikaagreatdoor", sum := "a820dd38968dfc9792dabb30de4928ac1e55fcabef6ea617de61db3277f8b6ae", func := "loop.example/g01030/laws.FnExactAreaOf", spec := "fnExactAreaOf", inPlace := ["internal/bytealg.IndexByteString", "internal/bytealg.IndexString"], unfollowed := true, recurses := true, named := ["unicode/utf8.first", "unicode/utf8.acceptRanges", "internal/bytealg.MaxLen"], apart := false, laid := [("unicode/utf8.acceptRanges", laid_unicode_utf8_acceptRanges), ("unicode/utf8.first", laid_unicode_utf8_first)], narrowed := true }
def FnExactAreaOfUptoSaid : Prop := fnExactAreaOfUptoRow.holds Tryz.pinned (OpenSpec.upto fnExactAreaOfSpec)

/-- 'laws.FnExactDistanceOfViews', WHERE WHAT IT READS IS OF BULK AT MOST 1048576: true; the input reads as it did. -/
def fnExactDistanceOfViewsUptoRow : OpenClaim := { program := "ytdbheipjbjcikaagreatdoor", sum := "a820dd38968dfc9792dabb30de4928ac1e55fcabef6ea617de61db3277f8b6ae", func := "loop.example/g01030/laws.FnExactDistanceOfViews", spec := "fnExactDistanceOfViews", inPlace := ["internal/bytealg.IndexByteString", "internal/bytealg.IndexString"], unfollowed := true, recurses := true, named := ["unicode/utf8.first", "unicode/utf8.acceptRanges", "internal/bytealg.MaxLen"], apart := false, laid := [("unicode/utf8.acceptRanges", laid_unicode_utf8_acceptRanges), ("unicode/utf8.first", laid_unicode_utf8_first)], narrowed := true }
def FnExactDistanceOfViewsUptoSaid : Prop := fnExactDistanceOfViewsUptoRow.holds Tryz.pinned (OpenSpec.upto fnExactDistanceOfViewsSpec)

/-- 'laws.FnExactDisputedArea', WHERE WHAT IT READS IS OF BULK AT MOST 1048576: true; the input reads as it did. -/
def fnExactDisputedAreaUptoRow : OpenClaim := { program := "ytdbheipjbjcikaagreatdoor", sum := "a820dd38968dfc9792dabb30de4928ac1e55fcabef6ea617de61db3277f8b6ae", func := "loop.example/g01030/laws.FnExactDisputedArea", spec := "fnExactDisputedArea", inPlace := ["internal/bytealg.IndexByteString", "internal/bytealg.IndexString"], unfollowed := true, recurses := true, named := ["unicode/utf8.first", "unicode/utf8.acceptRanges", "internal/bytealg.MaxLen"], apart := false, laid := [("unicode/utf8.acceptRanges", laid_unicode_utf8_acceptRanges), ("unicode/utf8.first", laid_unicode_utf8_first)], narrowed := true }
def FnExactDisputedAreaUptoSaid : Prop := fnExactDisputedAreaUptoRow.holds Tryz.pinned (OpenSpec.upto fnExactDisputedAreaSpec)

/-- 'laws.FnExactMajorityView', WHERE WHAT IT READS IS OF BULK AT MOST 1048576: true; the input reads as it did. -/
def fnExactMajorityViewUptoRow : OpenClaim := { program := "ytdbheipjbjcikaagreatdoor", sum := "a820dd38968dfc9792dabb30de4928ac1e55fcabef6ea617de61db3277f8b6ae", func := "loop.example/g01030/laws.FnExactMajorityView", spec := "fnExactMajorityView", inPlace := ["internal/bytealg.IndexByteString", "internal/bytealg.IndexString"], unfollowed := true, recurses := true, named := ["unicode/utf8.first", "unicode/utf8.acceptRanges", "internal/bytealg.MaxLen"], apart := false, laid := [("unicode/utf8.acceptRanges", laid_unicode_utf8_acceptRanges), ("unicode/utf8.first", laid_unicode_utf8_first)], narrowed := true }
def FnExactMajorityViewUptoSaid : Prop := fnExactMajorityViewUptoRow.holds Tryz.pinned (OpenSpec.upto fnExactMajorityViewSpec)

/-- 'laws.FnExactOwnersAt', WHERE WHAT IT READS IS OF BULK AT MOST 1048576: true; the input reads as it did. -/
def fnExactOwnersAtUptoRow : OpenClaim := { program := "ytdbheipjbjcikaagreatdoor", sum := "a820dd38968dfc9792dabb30de4928ac1e55fcabef6ea617de61db3277f8b6ae", func := "loop.example/g01030/laws.FnExactOwnersAt", spec := "fnExactOwnersAt", inPlace := ["internal/bytealg.IndexByteString", "internal/bytealg.IndexString"], unfollowed := true, recurses := true, named := ["unicode/utf8.first", "unicode/utf8.acceptRanges", "internal/bytealg.MaxLen"], apart := false, laid := [("unicode/utf8.acceptRanges", laid_unicode_utf8_acceptRanges), ("unicode/utf8.first", laid_unicode_utf8_first)], narrowed := true }
def FnExactOwnersAtUptoSaid : Prop := fnExactOwnersAtUptoRow.holds Tryz.pinned (OpenSpec.upto fnExactOwnersAtSpec)

end Rows
end Go.Proofs.YtdbheipjbjcikaaGreatDoor
