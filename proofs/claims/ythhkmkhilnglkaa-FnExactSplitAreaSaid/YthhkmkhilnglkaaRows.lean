/-
  No cell of these rows narrows 'for every input' (looked for: loops, veiled, ifaces, maps, wideKeys, modest, calm, conditions, laid).
  DERIVED. THE GIVEN ROWS OF THIS SEAT. 12 by the template 'for every input the law returns true; each argument reads behind the call as it read before'; 0 by the template 'total and deterministic' (their statements: YthhkmkhilnglkaaTotals.lean).
  GIVEN WITH THE SEED: the statements are not yours to turn. If you find one false, say at which input.
  Laid BY PROGRAM, IN A SANDBOX (cutbox-rows.mjs): the forced cells as the released guide's own fill.sh prints them over the translation 53dc883ec23da51f… (all of the seat's roots in one cut). By AI agents, Wed Nov 11 2026. No macro, syntax, notation, axiom, sorry.
-/
import Derived.Test.YthhkmkhilnglkaaChecked
import GoSem.Claim
import GoSem.ClaimJoined
import GoSem.ClaimMapViews
import Derived.JoinedTies
import Derived.KernelRfl
namespace Go.Proofs.Ythhkmkhilnglkaa
/- THE CELL 'sum', in the pinned program and in every row, IS THE sha256 OF THE DUMP (.gsa) THAT YthhkmkhilnglkaaProg.lean LOADS. Nothing in Lean hashes anything: it is a label: what it is worth is what the hold of that sum in a sandbox is worth. -/
noncomputable def Try.pinned : Pinned := { name := "ythhkmkhilnglkaa", sum := "53dc883ec23da51f79a50f512fe0c67f2095dee82917539fbf713f9e32ef5d68", checked := Try.checked }
namespace Rows
def none {H : Type} : Left H := { results := [], args := [] }

/-- 'laws.FnExactTwiceArea': WHATEVER THE INPUT: true; the input reads as it did. -/
def fnExactTwiceAreaSpec : ChangeSpec := { name := "fnExactTwiceArea", fn := fun _ => fun
  | [d] => { results := [.lit (.bool true)], args := [d] }
  | _ => none }
def fnExactTwiceAreaRow : OpenClaim := { program := "ythhkmkhilnglkaa", sum := "53dc883ec23da51f79a50f512fe0c67f2095dee82917539fbf713f9e32ef5d68", func := "loop.example/g01030/laws.FnExactTwiceArea", spec := "fnExactTwiceArea", apart := false }
def FnExactTwiceAreaSaid : Prop := fnExactTwiceAreaRow.holds Try.pinned (OpenSpec.ofChange fnExactTwiceAreaSpec)

/-- ITS FALSE NEIGHBOUR: 'it returns false'. Refute it at one input. -/
def fnExactTwiceAreaWrong : ChangeSpec := { name := "fnExactTwiceArea", fn := fun _ => fun
  | [d] => { results := [.lit (.bool false)], args := [d] }
  | _ => none }
def FnExactTwiceAreaWrongFalsely : Prop := fnExactTwiceAreaRow.holds Try.pinned (OpenSpec.ofChange fnExactTwiceAreaWrong)

/-- 'laws.FnExactCountOnBorder': WHATEVER THE INPUT: true; the input reads as it did. -/
def fnExactCountOnBorderSpec : ChangeSpec := { name := "fnExactCountOnBorder", fn := fun _ => fun
  | [d] => { results := [.lit (.bool true)], args := [d] }
  | _ => none }
def fnExactCountOnBorderRow : OpenClaim := { program := "ythhkmkhilnglkaa", sum := "53dc883ec23da51f79a50f512fe0c67f2095dee82917539fbf713f9e32ef5d68", func := "loop.example/g01030/laws.FnExactCountOnBorder", spec := "fnExactCountOnBorder", apart := false }
def FnExactCountOnBorderSaid : Prop := fnExactCountOnBorderRow.holds Try.pinned (OpenSpec.ofChange fnExactCountOnBorderSpec)

/-- ITS FALSE NEIGHBOUR: 'it returns false'. Refute it at one input. -/
def fnExactCountOnBorderWrong : ChangeSpec := { name := "fnExactCountOnBorder", fn := fun _ => fun
  | [d] => { results := [.lit (.bool false)], args := [d] }
  | _ => none }
def FnExactCountOnBorderWrongFalsely : Prop := fnExactCountOnBorderRow.holds Try.pinned (OpenSpec.ofChange fnExactCountOnBorderWrong)

/-- 'laws.FnExactSideOf': WHATEVER THE INPUT: true; the input reads as it did. -/
def fnExactSideOfSpec : ChangeSpec := { name := "fnExactSideOf", fn := fun _ => fun
  | [d1, d2] => { results := [.lit (.bool true)], args := [d1, d2] }
  | _ => none }
def fnExactSideOfRow : OpenClaim := { program := "ythhkmkhilnglkaa", sum := "53dc883ec23da51f79a50f512fe0c67f2095dee82917539fbf713f9e32ef5d68", func := "loop.example/g01030/laws.FnExactSideOf", spec := "fnExactSideOf", apart := false }
def FnExactSideOfSaid : Prop := fnExactSideOfRow.holds Try.pinned (OpenSpec.ofChange fnExactSideOfSpec)

/-- ITS FALSE NEIGHBOUR: 'it returns false'. Refute it at one input. -/
def fnExactSideOfWrong : ChangeSpec := { name := "fnExactSideOf", fn := fun _ => fun
  | [d1, d2] => { results := [.lit (.bool false)], args := [d1, d2] }
  | _ => none }
def FnExactSideOfWrongFalsely : Prop := fnExactSideOfRow.holds Try.pinned (OpenSpec.ofChange fnExactSideOfWrong)

/-- 'laws.FnExactCountInside': WHATEVER THE INPUT: true; the input reads as it did. -/
def fnExactCountInsideSpec : ChangeSpec := { name := "fnExactCountInside", fn := fun _ => fun
  | [d] => { results := [.lit (.bool true)], args := [d] }
  | _ => none }
def fnExactCountInsideRow : OpenClaim := { program := "ythhkmkhilnglkaa", sum := "53dc883ec23da51f79a50f512fe0c67f2095dee82917539fbf713f9e32ef5d68", func := "loop.example/g01030/laws.FnExactCountInside", spec := "fnExactCountInside", apart := false }
def FnExactCountInsideSaid : Prop := fnExactCountInsideRow.holds Try.pinned (OpenSpec.ofChange fnExactCountInsideSpec)

/-- ITS FALSE NEIGHBOUR: 'it returns false'. Refute it at one input. -/
def fnExactCountInsideWrong : ChangeSpec := { name := "fnExactCountInside", fn := fun _ => fun
  | [d] => { results := [.lit (.bool false)], args := [d] }
  | _ => none }
def FnExactCountInsideWrongFalsely : Prop := fnExactCountInsideRow.holds Try.pinned (OpenSpec.ofChange fnExactCountInsideWrong)

/-- 'laws.FnTurns': WHATEVER THE INPUT: true; the input reads as it did. -/
def fnTurnsSpec : ChangeSpec := { name := "fnTurns", fn := fun _ => fun
  | [d] => { results := [.lit (.bool true)], args := [d] }
  | _ => none }
def fnTurnsRow : OpenClaim := { program := "ythhkmkhilnglkaa", sum := "53dc883ec23da51f79a50f512fe0c67f2095dee82917539fbf713f9e32ef5d68", func := "loop.example/g01030/laws.FnTurns", spec := "fnTurns", apart := false }
def FnTurnsSaid : Prop := fnTurnsRow.holds Try.pinned (OpenSpec.ofChange fnTurnsSpec)

/-- ITS FALSE NEIGHBOUR: 'it returns false'. Refute it at one input. -/
def fnTurnsWrong : ChangeSpec := { name := "fnTurns", fn := fun _ => fun
  | [d] => { results := [.lit (.bool false)], args := [d] }
  | _ => none }
def FnTurnsWrongFalsely : Prop := fnTurnsRow.holds Try.pinned (OpenSpec.ofChange fnTurnsWrong)

/-- 'laws.FnExactNormalRing': WHATEVER THE INPUT: true; the input reads as it did. -/
def fnExactNormalRingSpec : ChangeSpec := { name := "fnExactNormalRing", fn := fun _ => fun
  | [d] => { results := [.lit (.bool true)], args := [d] }
  | _ => none }
def fnExactNormalRingRow : OpenClaim := { program := "ythhkmkhilnglkaa", sum := "53dc883ec23da51f79a50f512fe0c67f2095dee82917539fbf713f9e32ef5d68", func := "loop.example/g01030/laws.FnExactNormalRing", spec := "fnExactNormalRing", apart := false }
def FnExactNormalRingSaid : Prop := fnExactNormalRingRow.holds Try.pinned (OpenSpec.ofChange fnExactNormalRingSpec)

/-- ITS FALSE NEIGHBOUR: 'it returns false'. Refute it at one input. -/
def fnExactNormalRingWrong : ChangeSpec := { name := "fnExactNormalRing", fn := fun _ => fun
  | [d] => { results := [.lit (.bool false)], args := [d] }
  | _ => none }
def FnExactNormalRingWrongFalsely : Prop := fnExactNormalRingRow.holds Try.pinned (OpenSpec.ofChange fnExactNormalRingWrong)

/-- 'laws.FnExactEdgesOf': WHATEVER THE INPUT: true; the input reads as it did. -/
def fnExactEdgesOfSpec : ChangeSpec := { name := "fnExactEdgesOf", fn := fun _ => fun
  | [d] => { results := [.lit (.bool true)], args := [d] }
  | _ => none }
def fnExactEdgesOfRow : OpenClaim := { program := "ythhkmkhilnglkaa", sum := "53dc883ec23da51f79a50f512fe0c67f2095dee82917539fbf713f9e32ef5d68", func := "loop.example/g01030/laws.FnExactEdgesOf", spec := "fnExactEdgesOf", apart := false }
def FnExactEdgesOfSaid : Prop := fnExactEdgesOfRow.holds Try.pinned (OpenSpec.ofChange fnExactEdgesOfSpec)

/-- ITS FALSE NEIGHBOUR: 'it returns false'. Refute it at one input. -/
def fnExactEdgesOfWrong : ChangeSpec := { name := "fnExactEdgesOf", fn := fun _ => fun
  | [d] => { results := [.lit (.bool false)], args := [d] }
  | _ => none }
def FnExactEdgesOfWrongFalsely : Prop := fnExactEdgesOfRow.holds Try.pinned (OpenSpec.ofChange fnExactEdgesOfWrong)

/-- 'laws.FnExactIsMap': WHATEVER THE INPUT: true; the input reads as it did. -/
def fnExactIsMapSpec : ChangeSpec := { name := "fnExactIsMap", fn := fun _ => fun
  | [d] => { results := [.lit (.bool true)], args := [d] }
  | _ => none }
def fnExactIsMapRow : OpenClaim := { program := "ythhkmkhilnglkaa", sum := "53dc883ec23da51f79a50f512fe0c67f2095dee82917539fbf713f9e32ef5d68", func := "loop.example/g01030/laws.FnExactIsMap", spec := "fnExactIsMap", unfollowed := true, recurses := true, apart := false }
def FnExactIsMapSaid : Prop := fnExactIsMapRow.holds Try.pinned (OpenSpec.ofChange fnExactIsMapSpec)

/-- ITS FALSE NEIGHBOUR: 'it returns false'. Refute it at one input. -/
def fnExactIsMapWrong : ChangeSpec := { name := "fnExactIsMap", fn := fun _ => fun
  | [d] => { results := [.lit (.bool false)], args := [d] }
  | _ => none }
def FnExactIsMapWrongFalsely : Prop := fnExactIsMapRow.holds Try.pinned (OpenSpec.ofChange fnExactIsMapWrong)

/-- 'laws.FnRings': WHATEVER THE INPUT: true; the input reads as it did. -/
def fnRingsSpec : ChangeSpec := { name := "fnRings", fn := fun _ => fun
  | [d] => { results := [.lit (.bool true)], args := [d] }
  | _ => none }
def fnRingsRow : OpenClaim := { program := "ythhkmkhilnglkaa", sum := "53dc883ec23da51f79a50f512fe0c67f2095dee82917539fbf713f9e32ef5d68", func := "loop.example/g01030/laws.FnRings", spec := "fnRings", apart := false }
def FnRingsSaid : Prop := fnRingsRow.holds Try.pinned (OpenSpec.ofChange fnRingsSpec)

/-- ITS FALSE NEIGHBOUR: 'it returns false'. Refute it at one input. -/
def fnRingsWrong : ChangeSpec := { name := "fnRings", fn := fun _ => fun
  | [d] => { results := [.lit (.bool false)], args := [d] }
  | _ => none }
def FnRingsWrongFalsely : Prop := fnRingsRow.holds Try.pinned (OpenSpec.ofChange fnRingsWrong)

/-- 'laws.FnExactSplitArea': WHATEVER THE INPUT: true; the input reads as it did. -/
def fnExactSplitAreaSpec : ChangeSpec := { name := "fnExactSplitArea", fn := fun _ => fun
  | [d1, d2, d3] => { results := [.lit (.bool true)], args := [d1, d2, d3] }
  | _ => none }
def fnExactSplitAreaRow : OpenClaim := { program := "ythhkmkhilnglkaa", sum := "53dc883ec23da51f79a50f512fe0c67f2095dee82917539fbf713f9e32ef5d68", func := "loop.example/g01030/laws.FnExactSplitArea", spec := "fnExactSplitArea", unfollowed := true, recurses := true, apart := false }
def FnExactSplitAreaSaid : Prop := fnExactSplitAreaRow.holds Try.pinned (OpenSpec.ofChange fnExactSplitAreaSpec)

/-- ITS FALSE NEIGHBOUR: 'it returns false'. Refute it at one input. -/
def fnExactSplitAreaWrong : ChangeSpec := { name := "fnExactSplitArea", fn := fun _ => fun
  | [d1, d2, d3] => { results := [.lit (.bool false)], args := [d1, d2, d3] }
  | _ => none }
def FnExactSplitAreaWrongFalsely : Prop := fnExactSplitAreaRow.holds Try.pinned (OpenSpec.ofChange fnExactSplitAreaWrong)

/-- 'laws.FnExactTotalArea': WHATEVER THE INPUT: true; the input reads as it did. -/
def fnExactTotalAreaSpec : ChangeSpec := { name := "fnExactTotalArea", fn := fun _ => fun
  | [d] => { results := [.lit (.bool true)], args := [d] }
  | _ => none }
def fnExactTotalAreaRow : OpenClaim := { program := "ythhkmkhilnglkaa", sum := "53dc883ec23da51f79a50f512fe0c67f2095dee82917539fbf713f9e32ef5d68", func := "loop.example/g01030/laws.FnExactTotalArea", spec := "fnExactTotalArea", unfollowed := true, recurses := true, apart := false }
def FnExactTotalAreaSaid : Prop := fnExactTotalAreaRow.holds Try.pinned (OpenSpec.ofChange fnExactTotalAreaSpec)

/-- ITS FALSE NEIGHBOUR: 'it returns false'. Refute it at one input. -/
def fnExactTotalAreaWrong : ChangeSpec := { name := "fnExactTotalArea", fn := fun _ => fun
  | [d] => { results := [.lit (.bool false)], args := [d] }
  | _ => none }
def FnExactTotalAreaWrongFalsely : Prop := fnExactTotalAreaRow.holds Try.pinned (OpenSpec.ofChange fnExactTotalAreaWrong)

/-- 'laws.FnExactOuterBoundary': WHATEVER THE INPUT: true; the input reads as it did. -/
def fnExactOuterBoundarySpec : ChangeSpec := { name := "fnExactOuterBoundary", fn := fun _ => fun
  | [d] => { results := [.lit (.bool true)], args := [d] }
  | _ => none }
def fnExactOuterBoundaryRow : OpenClaim := { program := "ythhkmkhilnglkaa", sum := "53dc883ec23da51f79a50f512fe0c67f2095dee82917539fbf713f9e32ef5d68", func := "loop.example/g01030/laws.FnExactOuterBoundary", spec := "fnExactOuterBoundary", unfollowed := true, recurses := true, apart := false }
def FnExactOuterBoundarySaid : Prop := fnExactOuterBoundaryRow.holds Try.pinned (OpenSpec.ofChange fnExactOuterBoundarySpec)

/-- ITS FALSE NEIGHBOUR: 'it returns false'. Refute it at one input. -/
def fnExactOuterBoundaryWrong : ChangeSpec := { name := "fnExactOuterBoundary", fn := fun _ => fun
  | [d] => { results := [.lit (.bool false)], args := [d] }
  | _ => none }
def FnExactOuterBoundaryWrongFalsely : Prop := fnExactOuterBoundaryRow.holds Try.pinned (OpenSpec.ofChange fnExactOuterBoundaryWrong)

/- THE SECOND FORM. 'bulk': how many values and letters a reading holds, each counted each time it is reached (what is shared counts as often as it is met; a slice's spare places count too). A statement '..UptoSaid' is the law's where the arguments, and the package variables that the reading takes, are together of bulk at most 1048576: NARROWER than '..Said'. Prove '..Said' where nothing that the law and all that it calls make is longer than what came in: it says more and counts as full. Else prove '..UptoSaid'. A law counts once. -/
mutual
def uptoBulk {H : Type} : DataW H → Nat
  | .lit (.string bytes) => bytes.length + 1
  | .lit _ => 1
  | .nil => 1
  | .ptr d => uptoBulk d + 1
  | .slice elems spare => uptoBulkAll elems + uptoBulkAll spare + 1
  | .agg parts => uptoBulkAll parts + 1
  | .iface _ d => uptoBulk d + 1
  | .map entries => uptoBulkEntries entries + 1
  | .held _ => 1
def uptoBulkAll {H : Type} : List (DataW H) → Nat
  | [] => 0
  | d :: r => uptoBulk d + uptoBulkAll r
def uptoBulkEntries {H : Type} : List (Lit × DataW H) → Nat
  | [] => 0
  | x :: r => uptoBulkEntry x + uptoBulkEntries r
def uptoBulkEntry {H : Type} : Lit × DataW H → Nat
  | (.string bytes, d) => bytes.length + uptoBulk d + 1
  | (_, d) => uptoBulk d + 1
 end
def uptoSmall : (H : Type) → List (DataW H) → Bool := fun _ ds => decide (uptoBulkAll ds ≤ 1048576)
def OpenSpec.upto (s : _root_.Go.ChangeSpec) : _root_.Go.OpenSpec := { _root_.Go.OpenSpec.ofChange s with cond := some uptoSmall }

/-- 'laws.FnExactTwiceArea', WHERE WHAT IT READS IS OF BULK AT MOST 1048576: true; the input reads as it did. -/
def fnExactTwiceAreaUptoRow : OpenClaim := { program := "ythhkmkhilnglkaa", sum := "53dc883ec23da51f79a50f512fe0c67f2095dee82917539fbf713f9e32ef5d68", func := "loop.example/g01030/laws.FnExactTwiceArea", spec := "fnExactTwiceArea", apart := false, narrowed := true }
def FnExactTwiceAreaUptoSaid : Prop := fnExactTwiceAreaUptoRow.holds Try.pinned (OpenSpec.upto fnExactTwiceAreaSpec)

/-- 'laws.FnExactCountOnBorder', WHERE WHAT IT READS IS OF BULK AT MOST 1048576: true; the input reads as it did. -/
def fnExactCountOnBorderUptoRow : OpenClaim := { program := "ythhkmkhilnglkaa", sum := "53dc883ec23da51f79a50f512fe0c67f2095dee82917539fbf713f9e32ef5d68", func := "loop.example/g01030/laws.FnExactCountOnBorder", spec := "fnExactCountOnBorder", apart := false, narrowed := true }
def FnExactCountOnBorderUptoSaid : Prop := fnExactCountOnBorderUptoRow.holds Try.pinned (OpenSpec.upto fnExactCountOnBorderSpec)

/-- 'laws.FnExactSideOf', WHERE WHAT IT READS IS OF BULK AT MOST 1048576: true; the input reads as it did. -/
def fnExactSideOfUptoRow : OpenClaim := { program := "ythhkmkhilnglkaa", sum := "53dc883ec23da51f79a50f512fe0c67f2095dee82917539fbf713f9e32ef5d68", func := "loop.example/g01030/laws.FnExactSideOf", spec := "fnExactSideOf", apart := false, narrowed := true }
def FnExactSideOfUptoSaid : Prop := fnExactSideOfUptoRow.holds Try.pinned (OpenSpec.upto fnExactSideOfSpec)

/-- 'laws.FnExactCountInside', WHERE WHAT IT READS IS OF BULK AT MOST 1048576: true; the input reads as it did. -/
def fnExactCountInsideUptoRow : OpenClaim := { program := "ythhkmkhilnglkaa", sum := "53dc883ec23da51f79a50f512fe0c67f2095dee82917539fbf713f9e32ef5d68", func := "loop.example/g01030/laws.FnExactCountInside", spec := "fnExactCountInside", apart := false, narrowed := true }
def FnExactCountInsideUptoSaid : Prop := fnExactCountInsideUptoRow.holds Try.pinned (OpenSpec.upto fnExactCountInsideSpec)

/-- 'laws.FnTurns', WHERE WHAT IT READS IS OF BULK AT MOST 1048576: true; the input reads as it did. -/
def fnTurnsUptoRow : OpenClaim := { program := "ythhkmkhilnglkaa", sum := "53dc883ec23da51f79a50f512fe0c67f2095dee82917539fbf713f9e32ef5d68", func := "loop.example/g01030/laws.FnTurns", spec := "fnTurns", apart := false, narrowed := true }
def FnTurnsUptoSaid : Prop := fnTurnsUptoRow.holds Try.pinned (OpenSpec.upto fnTurnsSpec)

/-- 'laws.FnExactNormalRing', WHERE WHAT IT READS IS OF BULK AT MOST 1048576: true; the input reads as it did. -/
def fnExactNormalRingUptoRow : OpenClaim := { program := "ythhkmkhilnglkaa", sum := "53dc883ec23da51f79a50f512fe0c67f2095dee82917539fbf713f9e32ef5d68", func := "loop.example/g01030/laws.FnExactNormalRing", spec := "fnExactNormalRing", apart := false, narrowed := true }
def FnExactNormalRingUptoSaid : Prop := fnExactNormalRingUptoRow.holds Try.pinned (OpenSpec.upto fnExactNormalRingSpec)

/-- 'laws.FnExactEdgesOf', WHERE WHAT IT READS IS OF BULK AT MOST 1048576: true; the input reads as it did. -/
def fnExactEdgesOfUptoRow : OpenClaim := { program := "ythhkmkhilnglkaa", sum := "53dc883ec23da51f79a50f512fe0c67f2095dee82917539fbf713f9e32ef5d68", func := "loop.example/g01030/laws.FnExactEdgesOf", spec := "fnExactEdgesOf", apart := false, narrowed := true }
def FnExactEdgesOfUptoSaid : Prop := fnExactEdgesOfUptoRow.holds Try.pinned (OpenSpec.upto fnExactEdgesOfSpec)

/-- 'laws.FnExactIsMap', WHERE WHAT IT READS IS OF BULK AT MOST 1048576: true; the input reads as it did. -/
def fnExactIsMapUptoRow : OpenClaim := { program := "ythhkmkhilnglkaa", sum := "53dc883ec23da51f79a50f512fe0c67f2095dee82917539fbf713f9e32ef5d68", func := "loop.example/g01030/laws.FnExactIsMap", spec := "fnExactIsMap", unfollowed := true, recurses := true, apart := false, narrowed := true }
def FnExactIsMapUptoSaid : Prop := fnExactIsMapUptoRow.holds Try.pinned (OpenSpec.upto fnExactIsMapSpec)

/-- 'laws.FnRings', WHERE WHAT IT READS IS OF BULK AT MOST 1048576: true; the input reads as it did. -/
def fnRingsUptoRow : OpenClaim := { program := "ythhkmkhilnglkaa", sum := "53dc883ec23da51f79a50f512fe0c67f2095dee82917539fbf713f9e32ef5d68", func := "loop.example/g01030/laws.FnRings", spec := "fnRings", apart := false, narrowed := true }
def FnRingsUptoSaid : Prop := fnRingsUptoRow.holds Try.pinned (OpenSpec.upto fnRingsSpec)

/-- 'laws.FnExactSplitArea', WHERE WHAT IT READS IS OF BULK AT MOST 1048576: true; the input reads as it did. -/
def fnExactSplitAreaUptoRow : OpenClaim := { program := "ythhkmkhilnglkaa", sum := "53dc883ec23da51f79a50f512fe0c67f2095dee82917539fbf713f9e32ef5d68", func := "loop.example/g01030/laws.FnExactSplitArea", spec := "fnExactSplitArea", unfollowed := true, recurses := true, apart := false, narrowed := true }
def FnExactSplitAreaUptoSaid : Prop := fnExactSplitAreaUptoRow.holds Try.pinned (OpenSpec.upto fnExactSplitAreaSpec)

/-- 'laws.FnExactTotalArea', WHERE WHAT IT READS IS OF BULK AT MOST 1048576: true; the input reads as it did. -/
def fnExactTotalAreaUptoRow : OpenClaim := { program := "ythhkmkhilnglkaa", sum := "53dc883ec23da51f79a50f512fe0c67f2095dee82917539fbf713f9e32ef5d68", func := "loop.example/g01030/laws.FnExactTotalArea", spec := "fnExactTotalArea", unfollowed := true, recurses := true, apart := false, narrowed := true }
def FnExactTotalAreaUptoSaid : Prop := fnExactTotalAreaUptoRow.holds Try.pinned (OpenSpec.upto fnExactTotalAreaSpec)

/-- 'laws.FnExactOuterBoundary', WHERE WHAT IT READS IS OF BULK AT MOST 1048576: true; the input reads as it did. -/
def fnExactOuterBoundaryUptoRow : OpenClaim := { program := "ythhkmkhilnglkaa", sum := "53dc883ec23da51f79a50f512fe0c67f2095dee82917539fbf713f9e32ef5d68", func := "loop.example/g01030/laws.FnExactOuterBoundary", spec := "fnExactOuterBoundary", unfollowed := true, recurses := true, apart := false, narrowed := true }
def FnExactOuterBoundaryUptoSaid : Prop := fnExactOuterBoundaryUptoRow.holds Try.pinned (OpenSpec.upto fnExactOuterBoundarySpec)

end Rows
end Go.Proofs.Ythhkmkhilnglkaa
