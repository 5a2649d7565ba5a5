/-
  NARROWER THAN 'FOR EVERY INPUT', by the rows' own cells (each row's printed sentence says how): FnExactAppearedBetween: laid · FnExactMovedBetween: laid · FnExactSteadySpan: laid · FnExactDifferBefore: laid · FnExactRenamedBetween: laid · FnExactTurnsOf: laid · FnExactStateLine: laid · FnExactYearsInside: laid · FnExactCountIn: laid.
  DERIVED. THE GIVEN ROWS OF THIS SEAT. 9 by the template 'for every input the law returns true; each argument reads behind the call as it read before'; 0 by the template 'total and deterministic' (their statements: YtapfokfbdmcokaaGreatDoorTotals.lean).
  GIVEN WITH THE SEED: the statements are not yours to turn. If you find one false, say at which input.
  Laid BY PROGRAM, IN A SANDBOX (cutbox-rows.mjs): the forced cells as the released guide's own fill.sh prints them over the translation d32e22ce8b7f931b… (all of the seat's roots in one cut). By AI agents, Wed Nov 11 2026. No macro, syntax, notation, axiom, sorry.
-/
import Derived.Test.YtapfokfbdmcokaaGreatDoorChecked
import GoSem.PinnedTables
import GoSem.Claim
import GoSem.ClaimJoined
import GoSem.ClaimMapViews
import Derived.JoinedTies
import Derived.KernelRfl
namespace Go.Proofs.YtapfokfbdmcokaaGreatDoor
/- THE CELL 'sum', in the pinned program and in every row, IS THE sha256 OF THE DUMP (.gsa) THAT YtapfokfbdmcokaaGreatDoorProg.lean LOADS. Nothing in Lean hashes anything: it is a label: what it is worth is what the hold of that sum in a sandbox is worth. -/
noncomputable def Tryz.pinned : Pinned := { name := "ytapfokfbdmcokaagreatdoor", sum := "d32e22ce8b7f931b631da74034d94d09c4f98d6217e24053d8c6ce6ef68f374a", checked := Tryz.checked }
namespace Rows
def none {H : Type} : Left H := { results := [], args := [] }

/- WHAT THE LISTED PACKAGE-LEVEL VARIABLES READ AS WHEN THE CALL BEGINS. Each datum BY PROGRAM (the guide's laid-datum.mjs) off the statement by which the dump's own 'gosem.cut.vars' lays the variable. In a bare row this is a premise. The card (YtapfokfbdmcokaaGreatDoorCards.lean) ties it to the program's text. -/
def laid_unicode_utf8_acceptRanges {H : Type} : DataW H := .agg [.agg [.lit (.int .u8 128), .lit (.int .u8 191)], .agg [.lit (.int .u8 160), .lit (.int .u8 191)], .agg [.lit (.int .u8 128), .lit (.int .u8 159)], .agg [.lit (.int .u8 144), .lit (.int .u8 191)], .agg [.lit (.int .u8 128), .lit (.int .u8 143)], .agg [.lit (.int .u8 0), .lit (.int .u8 0)], .agg [.lit (.int .u8 0), .lit (.int .u8 0)], .agg [.lit (.int .u8 0), .lit (.int .u8 0)], .agg [.lit (.int .u8 0), .lit (.int .u8 0)], .agg [.lit (.int .u8 0), .lit (.int .u8 0)], .agg [.lit (.int .u8 0), .lit (.int .u8 0)], .agg [.lit (.int .u8 0), .lit (.int .u8 0)], .agg [.lit (.int .u8 0), .lit (.int .u8 0)], .agg [.lit (.int .u8 0), .lit (.int .u8 0)], .agg [.lit (.int .u8 0), .lit (.int .u8 0)], .agg [.lit (.int .u8 0), .lit (.int .u8 0)]]
/-- One of Go's own tables, pinned by name: the form's constant. -/
def laid_unicode_utf8_first : DataW Unit := Go.Pinned.utf8First

/-- 'laws.FnExactAppearedBetween': WHATEVER THE INPUT: true; the input reads as it did. -/
def fnExactAppearedBetweenSpec : ChangeSpec := { name := "fnExactAppearedBetween", fn := fun _ => fun
  | [d1, d2, d3] => { results := [.lit (.bool true)], args := [d1, d2, d3] }
  | _ => none }
def fnExactAppearedBetweenRow : OpenClaim := { program := "ytapfokfbdmcokaagreatdoor", sum := "d32e22ce8b7f931b631da74034d94d09c4f98d6217e24053d8c6ce6ef68f374a", func := "loop.example/g01030/laws.FnExactAppearedBetween", spec := "fnExactAppearedBetween", inPlace := ["internal/bytealg.IndexByteString", "internal/bytealg.IndexString", "internal/bytealg.CountString", "internal/bytealg.abigen_runtime_cmpstring"], unfollowed := true, recurses := true, named := ["unicode/utf8.first", "unicode/utf8.acceptRanges", "internal/bytealg.MaxLen"], apart := false, laid := [("unicode/utf8.acceptRanges", laid_unicode_utf8_acceptRanges), ("unicode/utf8.first", laid_unicode_utf8_first)] }
def FnExactAppearedBetweenSaid : Prop := fnExactAppearedBetweenRow.holds Tryz.pinned (OpenSpec.ofChange fnExactAppearedBetweenSpec)

/-- ITS FALSE NEIGHBOUR: 'it returns false'. Refute it at one input. -/
def fnExactAppearedBetweenWrong : ChangeSpec := { name := "fnExactAppearedBetween", fn := fun _ => fun
  | [d1, d2, d3] => { results := [.lit (.bool false)], args := [d1, d2, d3] }
  | _ => none }
def FnExactAppearedBetweenWrongFalsely : Prop := fnExactAppearedBetweenRow.holds Tryz.pinned (OpenSpec.ofChange fnExactAppearedBetweenWrong)

/-- 'laws.FnExactMovedBetween': WHATEVER THE INPUT: true; the input reads as it did. -/
def fnExactMovedBetweenSpec : ChangeSpec := { name := "fnExactMovedBetween", fn := fun _ => fun
  | [d1, d2, d3] => { results := [.lit (.bool true)], args := [d1, d2, d3] }
  | _ => none }
def fnExactMovedBetweenRow : OpenClaim := { program := "ytapfokfbdmcokaagreatdoor", sum := "d32e22ce8b7f931b631da74034d94d09c4f98d6217e24053d8c6ce6ef68f374a", func := "loop.example/g01030/laws.FnExactMovedBetween", spec := "fnExactMovedBetween", inPlace := ["internal/bytealg.IndexByteString", "internal/bytealg.IndexString", "internal/bytealg.CountString", "internal/bytealg.abigen_runtime_cmpstring"], unfollowed := true, recurses := true, named := ["unicode/utf8.first", "unicode/utf8.acceptRanges", "internal/bytealg.MaxLen"], apart := false, laid := [("unicode/utf8.acceptRanges", laid_unicode_utf8_acceptRanges), ("unicode/utf8.first", laid_unicode_utf8_first)] }
def FnExactMovedBetweenSaid : Prop := fnExactMovedBetweenRow.holds Tryz.pinned (OpenSpec.ofChange fnExactMovedBetweenSpec)

/-- ITS FALSE NEIGHBOUR: 'it returns false'. Refute it at one input. -/
def fnExactMovedBetweenWrong : ChangeSpec := { name := "fnExactMovedBetween", fn := fun _ => fun
  | [d1, d2, d3] => { results := [.lit (.bool false)], args := [d1, d2, d3] }
  | _ => none }
def FnExactMovedBetweenWrongFalsely : Prop := fnExactMovedBetweenRow.holds Tryz.pinned (OpenSpec.ofChange fnExactMovedBetweenWrong)

/-- 'laws.FnExactSteadySpan': WHATEVER THE INPUT: true; the input reads as it did. -/
def fnExactSteadySpanSpec : ChangeSpec := { name := "fnExactSteadySpan", fn := fun _ => fun
  | [d1, d2, d3] => { results := [.lit (.bool true)], args := [d1, d2, d3] }
  | _ => none }
def fnExactSteadySpanRow : OpenClaim := { program := "ytapfokfbdmcokaagreatdoor", sum := "d32e22ce8b7f931b631da74034d94d09c4f98d6217e24053d8c6ce6ef68f374a", func := "loop.example/g01030/laws.FnExactSteadySpan", spec := "fnExactSteadySpan", inPlace := ["internal/bytealg.IndexByteString", "internal/bytealg.IndexString", "internal/bytealg.CountString", "internal/bytealg.abigen_runtime_cmpstring"], unfollowed := true, recurses := true, named := ["unicode/utf8.first", "unicode/utf8.acceptRanges", "internal/bytealg.MaxLen"], apart := false, laid := [("unicode/utf8.acceptRanges", laid_unicode_utf8_acceptRanges), ("unicode/utf8.first", laid_unicode_utf8_first)] }
def FnExactSteadySpanSaid : Prop := fnExactSteadySpanRow.holds Tryz.pinned (OpenSpec.ofChange fnExactSteadySpanSpec)

/-- ITS FALSE NEIGHBOUR: 'it returns false'. Refute it at one input. -/
def fnExactSteadySpanWrong : ChangeSpec := { name := "fnExactSteadySpan", fn := fun _ => fun
  | [d1, d2, d3] => { results := [.lit (.bool false)], args := [d1, d2, d3] }
  | _ => none }
def FnExactSteadySpanWrongFalsely : Prop := fnExactSteadySpanRow.holds Tryz.pinned (OpenSpec.ofChange fnExactSteadySpanWrong)

/-- 'laws.FnExactDifferBefore': WHATEVER THE INPUT: true; the input reads as it did. -/
def fnExactDifferBeforeSpec : ChangeSpec := { name := "fnExactDifferBefore", fn := fun _ => fun
  | [d1, d2, d3] => { results := [.lit (.bool true)], args := [d1, d2, d3] }
  | _ => none }
def fnExactDifferBeforeRow : OpenClaim := { program := "ytapfokfbdmcokaagreatdoor", sum := "d32e22ce8b7f931b631da74034d94d09c4f98d6217e24053d8c6ce6ef68f374a", func := "loop.example/g01030/laws.FnExactDifferBefore", spec := "fnExactDifferBefore", inPlace := ["internal/bytealg.IndexByteString", "internal/bytealg.IndexString", "internal/bytealg.CountString", "internal/bytealg.abigen_runtime_cmpstring"], unfollowed := true, recurses := true, named := ["unicode/utf8.first", "unicode/utf8.acceptRanges", "internal/bytealg.MaxLen"], apart := false, laid := [("unicode/utf8.acceptRanges", laid_unicode_utf8_acceptRanges), ("unicode/utf8.first", laid_unicode_utf8_first)] }
def FnExactDifferBeforeSaid : Prop := fnExactDifferBeforeRow.holds Tryz.pinned (OpenSpec.ofChange fnExactDifferBeforeSpec)

/-- ITS FALSE NEIGHBOUR: 'it returns false'. Refute it at one input. -/
def fnExactDifferBeforeWrong : ChangeSpec := { name := "fnExactDifferBefore", fn := fun _ => fun
  | [d1, d2, d3] => { results := [.lit (.bool false)], args := [d1, d2, d3] }
  | _ => none }
def FnExactDifferBeforeWrongFalsely : Prop := fnExactDifferBeforeRow.holds Tryz.pinned (OpenSpec.ofChange fnExactDifferBeforeWrong)

/-- 'laws.FnExactRenamedBetween': WHATEVER THE INPUT: true; the input reads as it did. -/
def fnExactRenamedBetweenSpec : ChangeSpec := { name := "fnExactRenamedBetween", fn := fun _ => fun
  | [d1, d2, d3, d4] => { results := [.lit (.bool true)], args := [d1, d2, d3, d4] }
  | _ => none }
def fnExactRenamedBetweenRow : OpenClaim := { program := "ytapfokfbdmcokaagreatdoor", sum := "d32e22ce8b7f931b631da74034d94d09c4f98d6217e24053d8c6ce6ef68f374a", func := "loop.example/g01030/laws.FnExactRenamedBetween", spec := "fnExactRenamedBetween", inPlace := ["internal/bytealg.IndexByteString", "internal/bytealg.IndexString", "internal/bytealg.CountString", "internal/bytealg.abigen_runtime_cmpstring"], unfollowed := true, recurses := true, named := ["unicode/utf8.first", "unicode/utf8.acceptRanges", "internal/bytealg.MaxLen"], apart := false, laid := [("unicode/utf8.acceptRanges", laid_unicode_utf8_acceptRanges), ("unicode/utf8.first", laid_unicode_utf8_first)] }
def FnExactRenamedBetweenSaid : Prop := fnExactRenamedBetweenRow.holds Tryz.pinned (OpenSpec.ofChange fnExactRenamedBetweenSpec)

/-- ITS FALSE NEIGHBOUR: 'it returns false'. Refute it at one input. -/
def fnExactRenamedBetweenWrong : ChangeSpec := { name := "fnExactRenamedBetween", fn := fun _ => fun
  | [d1, d2, d3, d4] => { results := [.lit (.bool false)], args := [d1, d2, d3, d4] }
  | _ => none }
def FnExactRenamedBetweenWrongFalsely : Prop := fnExactRenamedBetweenRow.holds Tryz.pinned (OpenSpec.ofChange fnExactRenamedBetweenWrong)

/-- 'laws.FnExactTurnsOf': WHATEVER THE INPUT: true; the input reads as it did. -/
def fnExactTurnsOfSpec : ChangeSpec := { name := "fnExactTurnsOf", fn := fun _ => fun
  | [d1, d2] => { results := [.lit (.bool true)], args := [d1, d2] }
  | _ => none }
def fnExactTurnsOfRow : OpenClaim := { program := "ytapfokfbdmcokaagreatdoor", sum := "d32e22ce8b7f931b631da74034d94d09c4f98d6217e24053d8c6ce6ef68f374a", func := "loop.example/g01030/laws.FnExactTurnsOf", spec := "fnExactTurnsOf", inPlace := ["internal/bytealg.IndexByteString", "internal/bytealg.IndexString", "internal/bytealg.CountString", "internal/bytealg.abigen_runtime_cmpstring"], unfollowed := true, recurses := true, named := ["unicode/utf8.first", "unicode/utf8.acceptRanges", "internal/bytealg.MaxLen"], apart := false, laid := [("unicode/utf8.acceptRanges", laid_unicode_utf8_acceptRanges), ("unicode/utf8.first", laid_unicode_utf8_first)] }
def FnExactTurnsOfSaid : Prop := fnExactTurnsOfRow.holds Tryz.pinned (OpenSpec.ofChange fnExactTurnsOfSpec)

/-- ITS FALSE NEIGHBOUR: 'it returns false'. Refute it at one input. -/
def fnExactTurnsOfWrong : ChangeSpec := { name := "fnExactTurnsOf", fn := fun _ => fun
  | [d1, d2] => { results := [.lit (.bool false)], args := [d1, d2] }
  | _ => none }
def FnExactTurnsOfWrongFalsely : Prop := fnExactTurnsOfRow.holds Tryz.pinned (OpenSpec.ofChange fnExactTurnsOfWrong)

/-- 'laws.FnExactStateLine': WHATEVER THE INPUT: true; the input reads as it did. -/
def fnExactStateLineSpec : ChangeSpec := { name := "fnExactStateLine", fn := fun _ => fun
  | [d1, d2, d3, d4] => { results := [.lit (.bool true)], args := [d1, d2, d3, d4] }
  | _ => none }
def fnExactStateLineRow : OpenClaim := { program := "ytapfokfbdmcokaagreatdoor", sum := "d32e22ce8b7f931b631da74034d94d09c4f98d6217e24053d8c6ce6ef68f374a", func := "loop.example/g01030/laws.FnExactStateLine", spec := "fnExactStateLine", inPlace := ["internal/bytealg.IndexByteString", "internal/bytealg.IndexString", "internal/bytealg.CountString", "internal/bytealg.abigen_runtime_cmpstring", "internal/abi.NoEscape", "internal/bytealg.MakeNoZero"], unfollowed := true, recurses := true, named := ["unicode/utf8.first", "unicode/utf8.acceptRanges", "internal/bytealg.MaxLen"], apart := false, laid := [("unicode/utf8.acceptRanges", laid_unicode_utf8_acceptRanges), ("unicode/utf8.first", laid_unicode_utf8_first)] }
def FnExactStateLineSaid : Prop := fnExactStateLineRow.holds Tryz.pinned (OpenSpec.ofChange fnExactStateLineSpec)

/-- ITS FALSE NEIGHBOUR: 'it returns false'. Refute it at one input. -/
def fnExactStateLineWrong : ChangeSpec := { name := "fnExactStateLine", fn := fun _ => fun
  | [d1, d2, d3, d4] => { results := [.lit (.bool false)], args := [d1, d2, d3, d4] }
  | _ => none }
def FnExactStateLineWrongFalsely : Prop := fnExactStateLineRow.holds Tryz.pinned (OpenSpec.ofChange fnExactStateLineWrong)

/-- 'laws.FnExactYearsInside': WHATEVER THE INPUT: true; the input reads as it did. -/
def fnExactYearsInsideSpec : ChangeSpec := { name := "fnExactYearsInside", fn := fun _ => fun
  | [d1, d2, d3] => { results := [.lit (.bool true)], args := [d1, d2, d3] }
  | _ => none }
def fnExactYearsInsideRow : OpenClaim := { program := "ytapfokfbdmcokaagreatdoor", sum := "d32e22ce8b7f931b631da74034d94d09c4f98d6217e24053d8c6ce6ef68f374a", func := "loop.example/g01030/laws.FnExactYearsInside", spec := "fnExactYearsInside", inPlace := ["internal/bytealg.IndexByteString", "internal/bytealg.IndexString"], unfollowed := true, recurses := true, named := ["unicode/utf8.first", "unicode/utf8.acceptRanges", "internal/bytealg.MaxLen"], apart := false, laid := [("unicode/utf8.acceptRanges", laid_unicode_utf8_acceptRanges), ("unicode/utf8.first", laid_unicode_utf8_first)] }
def FnExactYearsInsideSaid : Prop := fnExactYearsInsideRow.holds Tryz.pinned (OpenSpec.ofChange fnExactYearsInsideSpec)

/-- ITS FALSE NEIGHBOUR: 'it returns false'. Refute it at one input. -/
def fnExactYearsInsideWrong : ChangeSpec := { name := "fnExactYearsInside", fn := fun _ => fun
  | [d1, d2, d3] => { results := [.lit (.bool false)], args := [d1, d2, d3] }
  | _ => none }
def FnExactYearsInsideWrongFalsely : Prop := fnExactYearsInsideRow.holds Tryz.pinned (OpenSpec.ofChange fnExactYearsInsideWrong)

/-- 'laws.FnExactCountIn': WHATEVER THE INPUT: true; the input reads as it did. -/
def fnExactCountInSpec : ChangeSpec := { name := "fnExactCountIn", fn := fun _ => fun
  | [d1, d2, d3] => { results := [.lit (.bool true)], args := [d1, d2, d3] }
  | _ => none }
def fnExactCountInRow : OpenClaim := { program := "ytapfokfbdmcokaagreatdoor", sum := "d32e22ce8b7f931b631da74034d94d09c4f98d6217e24053d8c6ce6ef68f374a", func := "loop.example/g01030/laws.FnExactCountIn", spec := "fnExactCountIn", inPlace := ["internal/bytealg.IndexByteString", "internal/bytealg.IndexString", "internal/bytealg.CountString", "internal/bytealg.abigen_runtime_cmpstring"], unfollowed := true, recurses := true, named := ["unicode/utf8.first", "unicode/utf8.acceptRanges", "internal/bytealg.MaxLen"], apart := false, laid := [("unicode/utf8.acceptRanges", laid_unicode_utf8_acceptRanges), ("unicode/utf8.first", laid_unicode_utf8_first)] }
def FnExactCountInSaid : Prop := fnExactCountInRow.holds Tryz.pinned (OpenSpec.ofChange fnExactCountInSpec)

/-- ITS FALSE NEIGHBOUR: 'it returns false'. Refute it at one input. -/
def fnExactCountInWrong : ChangeSpec := { name := "fnExactCountIn", fn := fun _ => fun
  | [d1, d2, d3] => { results := [.lit (.bool false)], args := [d1, d2, d3] }
  | _ => none }
def FnExactCountInWrongFalsely : Prop := fnExactCountInRow.holds Tryz.pinned (OpenSpec.ofChange fnExactCountInWrong)

/- THE SECOND FORM. 'bulk': how many values and letters a reading holds, each counted each time it is reached (what is shared counts as often as it is met; a slice's spare places count too). A statement '..UptoSaid' is the law's where the arguments, and the package variables that the reading takes, are together of bulk at most 1048576: NARROWER than '..Said'. Prove '..Said' where nothing that the law and all that it calls make is longer than what came in: it says more and counts as full. Else prove '..UptoSaid'. A law counts once. -/
mutual
def uptoBulk {H : Type} : DataW H → Nat
  | .lit (.string bytes) => bytes.length + 1
  | .lit _ => 1
  | .nil => 1
  | .ptr d => uptoBulk d + 1
  | .slice elems spare => uptoBulkAll elems + uptoBulkAll spare + 1
  | .agg parts => uptoBulkAll parts + 1
  | .iface _ d => uptoBulk d + 1
  | .map entries => uptoBulkEntries entries + 1
  | .held _ => 1
def uptoBulkAll {H : Type} : List (DataW H) → Nat
  | [] => 0
  | d :: r => uptoBulk d + uptoBulkAll r
def uptoBulkEntries {H : Type} : List (Lit × DataW H) → Nat
  | [] => 0
  | x :: r => uptoBulkEntry x + uptoBulkEntries r
def uptoBulkEntry {H : Type} : Lit × DataW H → Nat
  | (.string bytes, d) => bytes.length + uptoBulk d + 1
  | (_, d) => uptoBulk d + 1
 end
def uptoSmall : (H : Type) → List (DataW H) → Bool := fun _ ds => decide (uptoBulkAll ds ≤ 1048576)
def OpenSpec.upto (s : _root_.Go.ChangeSpec) : _root_.Go.OpenSpec := { _root_.Go.OpenSpec.ofChange s with cond := some uptoSmall }

/-- 'laws.FnExactAppearedBetween', WHERE WHAT IT READS IS OF BULK AT MOST 1048576: true; the input reads as it did. -/
def fnExactAppearedBetweenUptoRow : OpenClaim := { program := "ytapfokfbdmcokaagreatdoor", sum := "d32e22ce8b7f931b631da74034d94d09c4f98d6217e24053d8c6ce6ef68f374a", func := "loop.example/g01030/laws.FnExactAppearedBetween", spec := "fnExactAppearedBetween", inPlace := ["internal/bytealg.IndexByteString", "internal/bytealg.IndexString", "internal/bytealg.CountString", "internal/bytealg.abigen_runtime_cmpstring"], unfollowed := true, recurses := true, named := ["unicode/utf8.first", "unicode/utf8.acceptRanges", "internal/bytealg.MaxLen"], apart := false, laid := [("unicode/utf8.acceptRanges", laid_unicode_utf8_acceptRanges), ("unicode/utf8.first", laid_unicode_utf8_first)], narrowed := true }
def FnExactAppearedBetweenUptoSaid : Prop := fnExactAppearedBetweenUptoRow.holds Tryz.pinned (OpenSpec.upto fnExactAppearedBetweenSpec)

/-- 'laws.FnExactMovedBetween', WHERE WHAT IT READS IS OF BULK AT MOST 1048576: true; the input reads as it did. -/
def fnExactMovedBetweenUptoRow : OpenClaim := { program := "ytapfokfbdmcokaagreatdoor", sum := "d32e22ce8b7f931b631da74034d94d09c4f98d6217e24053d8c6ce6ef68f374a", func := "loop.example/g01030/laws.FnExactMovedBetween", spec := "fnExactMovedBetween", inPlace := ["internal/bytealg.IndexByteString", "internal/bytealg.IndexString", "internal/bytealg.CountString", "internal/bytealg.abigen_runtime_cmpstring"], unfollowed := true, recurses := true, named := ["unicode/utf8.first", "unicode/utf8.acceptRanges", "internal/bytealg.MaxLen"], apart := false, laid := [("unicode/utf8.acceptRanges", laid_unicode_utf8_acceptRanges), ("unicode/utf8.first", laid_unicode_utf8_first)], narrowed := true }
def FnExactMovedBetweenUptoSaid : Prop := fnExactMovedBetweenUptoRow.holds Tryz.pinned (OpenSpec.upto fnExactMovedBetweenSpec)

/-- 'laws.FnExactSteadySpan', WHERE WHAT IT READS IS OF BULK AT MOST 1048576: true; the input reads as it did. -/
def fnExactSteadySpanUptoRow : OpenClaim := { program := "ytapfokfbdmcokaagreatdoor", sum := "d32e22ce8b7f931b631da74034d94d09c4f98d6217e24053d8c6ce6ef68f374a", func := "loop.example/g01030/laws.FnExactSteadySpan", spec := "fnExactSteadySpan", inPlace := ["internal/bytealg.IndexByteString", "internal/bytealg.IndexString", "internal/bytealg.CountString", "internal/bytealg.abigen_runtime_cmpstring"], unfollowed := true, recurses := true, named := ["unicode/utf8.first", "unicode/utf8.acceptRanges", "internal/bytealg.MaxLen"], apart := false, laid := [("unicode/utf8.acceptRanges", laid_unicode_utf8_acceptRanges), ("unicode/utf8.first", laid_unicode_utf8_first)], narrowed := true }
def FnExactSteadySpanUptoSaid : Prop := fnExactSteadySpanUptoRow.holds Tryz.pinned (OpenSpec.upto fnExactSteadySpanSpec)

/-- 'laws.FnExactDifferBefore', WHERE WHAT IT READS IS OF BULK AT MOST 1048576: true; the input reads as it did. -/
def fnExactDifferBeforeUptoRow : OpenClaim := { program := "ytapfokfbdmcokaagreatdoor", sum := "d32e22ce8b7f931b631da74034d94d09c4f98d6217e24053d8c6ce6ef68f374a", func := "loop.example/g01030/laws.FnExactDifferBefore", spec := "fnExactDifferBefore", inPlace := ["internal/bytealg.IndexByteString", "internal/bytealg.IndexString", "internal/bytealg.CountString", "internal/bytealg.abigen_runtime_cmpstring"], unfollowed := true, recurses := true, named := ["unicode/utf8.first", "unicode/utf8.acceptRanges", "internal/bytealg.MaxLen"], apart := false, laid := [("unicode/utf8.acceptRanges", laid_unicode_utf8_acceptRanges), ("unicode/utf8.first", laid_unicode_utf8_first)], narrowed := true }
def FnExactDifferBeforeUptoSaid : Prop := fnExactDifferBeforeUptoRow.holds Tryz.pinned (OpenSpec.upto fnExactDifferBeforeSpec)

/-- 'laws.FnExactRenamedBetween', WHERE WHAT IT READS IS OF BULK AT MOST 1048576: true; the input reads as it did. -/
def fnExactRenamedBetweenUptoRow : OpenClaim := { program := "ytapfokfbdmcokaagreatdoor", sum := "d32e22ce8b7f931b631da74034d94d09c4f98d6217e24053d8c6ce6ef68f374a", func := "loop.example/g01030/laws.FnExactRenamedBetween", spec := "fnExactRenamedBetween", inPlace := ["internal/bytealg.IndexByteString", "internal/bytealg.IndexString", "internal/bytealg.CountString", "internal/bytealg.abigen_runtime_cmpstring"], unfollowed := true, recurses := true, named := ["unicode/utf8.first", "unicode/utf8.acceptRanges", "internal/bytealg.MaxLen"], apart := false, laid := [("unicode/utf8.acceptRanges", laid_unicode_utf8_acceptRanges), ("unicode/utf8.first", laid_unicode_utf8_first)], narrowed := true }
def FnExactRenamedBetweenUptoSaid : Prop := fnExactRenamedBetweenUptoRow.holds Tryz.pinned (OpenSpec.upto fnExactRenamedBetweenSpec)

/-- 'laws.FnExactTurnsOf', WHERE WHAT IT READS IS OF BULK AT MOST 1048576: true; the input reads as it did. -/
def fnExactTurnsOfUptoRow : OpenClaim := { program := "ytapfokfbdmcokaagreatdoor", sum := "d32e22ce8b7f931b631da74034d94d09c4f98d6217e24053d8c6ce6ef68f374a", func := "loop.example/g01030/laws.FnExactTurnsOf", spec := "fnExactTurnsOf", inPlace := ["internal/bytealg.IndexByteString", "internal/bytealg.IndexString", "internal/bytealg.CountString", "internal/bytealg.abigen_runtime_cmpstring"], unfollowed := true, recurses := true, named := ["unicode/utf8.first", "unicode/utf8.acceptRanges", "internal/bytealg.MaxLen"], apart := false, laid := [("unicode/utf8.acceptRanges", laid_unicode_utf8_acceptRanges), ("unicode/utf8.first", laid_unicode_utf8_first)], narrowed := true }
def FnExactTurnsOfUptoSaid : Prop := fnExactTurnsOfUptoRow.holds Tryz.pinned (OpenSpec.upto fnExactTurnsOfSpec)

/-- 'laws.FnExactStateLine', WHERE WHAT IT READS IS OF BULK AT MOST 1048576: true; the input reads as it did. -/
def fnExactStateLineUptoRow : OpenClaim := { program := "ytapfokfbdmcokaagreatdoor", sum := "d32e22ce8b7f931b631da74034d94d09c4f98d6217e24053d8c6ce6ef68f374a", func := "loop.example/g01030/laws.FnExactStateLine", spec := "fnExactStateLine", inPlace := ["internal/bytealg.IndexByteString", "internal/bytealg.IndexString", "internal/bytealg.CountString", "internal/bytealg.abigen_runtime_cmpstring", "internal/abi.NoEscape", "internal/bytealg.MakeNoZero"], unfollowed := true, recurses := true, named := ["unicode/utf8.first", "unicode/utf8.acceptRanges", "internal/bytealg.MaxLen"], apart := false, laid := [("unicode/utf8.acceptRanges", laid_unicode_utf8_acceptRanges), ("unicode/utf8.first", laid_unicode_utf8_first)], narrowed := true }
def FnExactStateLineUptoSaid : Prop := fnExactStateLineUptoRow.holds Tryz.pinned (OpenSpec.upto fnExactStateLineSpec)

/-- 'laws.FnExactYearsInside', WHERE WHAT IT READS IS OF BULK AT MOST 1048576: true; the input reads as it did. -/
def fnExactYearsInsideUptoRow : OpenClaim := { program := "ytapfokfbdmcokaagreatdoor", sum := "d32e22ce8b7f931b631da74034d94d09c4f98d6217e24053d8c6ce6ef68f374a", func := "loop.example/g01030/laws.FnExactYearsInside", spec := "fnExactYearsInside", inPlace := ["internal/bytealg.IndexByteString", "internal/bytealg.IndexString"], unfollowed := true, recurses := true, named := ["unicode/utf8.first", "unicode/utf8.acceptRanges", "internal/bytealg.MaxLen"], apart := false, laid := [("unicode/utf8.acceptRanges", laid_unicode_utf8_acceptRanges), ("unicode/utf8.first", laid_unicode_utf8_first)], narrowed := true }
def FnExactYearsInsideUptoSaid : Prop := fnExactYearsInsideUptoRow.holds Tryz.pinned (OpenSpec.upto fnExactYearsInsideSpec)

/-- 'laws.FnExactCountIn', WHERE WHAT IT READS IS OF BULK AT MOST 1048576: true; the input reads as it did. -/
def fnExactCountInUptoRow : OpenClaim := { program := "ytapfokfbdmcokaagreatdoor", sum := "d32e22ce8b7f931b631da74034d94d09c4f98d6217e24053d8c6ce6ef68f374a", func := "loop.example/g01030/laws.FnExactCountIn", spec := "fnExactCountIn", inPlace := ["internal/bytealg.IndexByteString", "internal/bytealg.IndexString", "internal/bytealg.CountString", "internal/bytealg.abigen_runtime_cmpstring"], unfollowed := true, recurses := true, named := ["unicode/utf8.first", "unicode/utf8.acceptRanges", "internal/bytealg.MaxLen"], apart := false, laid := [("unicode/utf8.acceptRanges", laid_unicode_utf8_acceptRanges), ("unicode/utf8.first", laid_unicode_utf8_first)], narrowed := true }
def FnExactCountInUptoSaid : Prop := fnExactCountInUptoRow.holds Tryz.pinned (OpenSpec.upto fnExactCountInSpec)

end Rows
end Go.Proofs.YtapfokfbdmcokaaGreatDoor
