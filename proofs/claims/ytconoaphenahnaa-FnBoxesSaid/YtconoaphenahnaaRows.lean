/-
  No cell of these rows narrows 'for every input' (looked for: loops, veiled, ifaces, maps, wideKeys, modest, calm, conditions, laid).
  DERIVED. THE GIVEN ROWS OF THIS SEAT. 12 by the template 'for every input the law returns true; each argument reads behind the call as it read before'; 0 by the template 'total and deterministic' (their statements: YtconoaphenahnaaTotals.lean).
  GIVEN WITH THE SEED: the statements are not yours to turn. If you find one false, say at which input.
  Laid BY PROGRAM, IN A SANDBOX (cutbox-rows.mjs): the forced cells as the released guide's own fill.sh prints them over the translation fcc03d4dbc56d268… (all of the seat's roots in one cut). By AI agents, Wed Nov 11 2026. No macro, syntax, notation, axiom, sorry.
-/
import Derived.Test.YtconoaphenahnaaChecked
import GoSem.Claim
import GoSem.ClaimJoined
import GoSem.ClaimMapViews
import Derived.JoinedTies
import Derived.KernelRfl
namespace Go.Proofs.Ytconoaphenahnaa
/- THE CELL 'sum', in the pinned program and in every row, IS THE sha256 OF THE DUMP (.gsa) THAT YtconoaphenahnaaProg.lean LOADS. Nothing in Lean hashes anything: it is a label: what it is worth is what the hold of that sum in a sandbox is worth. -/
noncomputable def Try.pinned : Pinned := { name := "ytconoaphenahnaa", sum := "fcc03d4dbc56d268971d6b52ae8dfd2eb63705b63a4fcf4ed7b68e6e375cdc4e", checked := Try.checked }
namespace Rows
def none {H : Type} : Left H := { results := [], args := [] }

/-- 'laws.FnExactIsPoint': WHATEVER THE INPUT: true; the input reads as it did. -/
def fnExactIsPointSpec : ChangeSpec := { name := "fnExactIsPoint", fn := fun _ => fun
  | [d] => { results := [.lit (.bool true)], args := [d] }
  | _ => none }
def fnExactIsPointRow : OpenClaim := { program := "ytconoaphenahnaa", sum := "fcc03d4dbc56d268971d6b52ae8dfd2eb63705b63a4fcf4ed7b68e6e375cdc4e", func := "loop.example/g01030/laws.FnExactIsPoint", spec := "fnExactIsPoint", apart := false }
def FnExactIsPointSaid : Prop := fnExactIsPointRow.holds Try.pinned (OpenSpec.ofChange fnExactIsPointSpec)

/-- ITS FALSE NEIGHBOUR: 'it returns false'. Refute it at one input. -/
def fnExactIsPointWrong : ChangeSpec := { name := "fnExactIsPoint", fn := fun _ => fun
  | [d] => { results := [.lit (.bool false)], args := [d] }
  | _ => none }
def FnExactIsPointWrongFalsely : Prop := fnExactIsPointRow.holds Try.pinned (OpenSpec.ofChange fnExactIsPointWrong)

/-- 'laws.FnExactSquaredDistance': WHATEVER THE INPUT: true; the input reads as it did. -/
def fnExactSquaredDistanceSpec : ChangeSpec := { name := "fnExactSquaredDistance", fn := fun _ => fun
  | [d1, d2] => { results := [.lit (.bool true)], args := [d1, d2] }
  | _ => none }
def fnExactSquaredDistanceRow : OpenClaim := { program := "ytconoaphenahnaa", sum := "fcc03d4dbc56d268971d6b52ae8dfd2eb63705b63a4fcf4ed7b68e6e375cdc4e", func := "loop.example/g01030/laws.FnExactSquaredDistance", spec := "fnExactSquaredDistance", apart := false }
def FnExactSquaredDistanceSaid : Prop := fnExactSquaredDistanceRow.holds Try.pinned (OpenSpec.ofChange fnExactSquaredDistanceSpec)

/-- ITS FALSE NEIGHBOUR: 'it returns false'. Refute it at one input. -/
def fnExactSquaredDistanceWrong : ChangeSpec := { name := "fnExactSquaredDistance", fn := fun _ => fun
  | [d1, d2] => { results := [.lit (.bool false)], args := [d1, d2] }
  | _ => none }
def FnExactSquaredDistanceWrongFalsely : Prop := fnExactSquaredDistanceRow.holds Try.pinned (OpenSpec.ofChange fnExactSquaredDistanceWrong)

/-- 'laws.FnExactTurnOf': WHATEVER THE INPUT: true; the input reads as it did. -/
def fnExactTurnOfSpec : ChangeSpec := { name := "fnExactTurnOf", fn := fun _ => fun
  | [d1, d2, d3] => { results := [.lit (.bool true)], args := [d1, d2, d3] }
  | _ => none }
def fnExactTurnOfRow : OpenClaim := { program := "ytconoaphenahnaa", sum := "fcc03d4dbc56d268971d6b52ae8dfd2eb63705b63a4fcf4ed7b68e6e375cdc4e", func := "loop.example/g01030/laws.FnExactTurnOf", spec := "fnExactTurnOf", apart := false }
def FnExactTurnOfSaid : Prop := fnExactTurnOfRow.holds Try.pinned (OpenSpec.ofChange fnExactTurnOfSpec)

/-- ITS FALSE NEIGHBOUR: 'it returns false'. Refute it at one input. -/
def fnExactTurnOfWrong : ChangeSpec := { name := "fnExactTurnOf", fn := fun _ => fun
  | [d1, d2, d3] => { results := [.lit (.bool false)], args := [d1, d2, d3] }
  | _ => none }
def FnExactTurnOfWrongFalsely : Prop := fnExactTurnOfRow.holds Try.pinned (OpenSpec.ofChange fnExactTurnOfWrong)

/-- 'laws.FnExactIsOn': WHATEVER THE INPUT: true; the input reads as it did. -/
def fnExactIsOnSpec : ChangeSpec := { name := "fnExactIsOn", fn := fun _ => fun
  | [d1, d2, d3] => { results := [.lit (.bool true)], args := [d1, d2, d3] }
  | _ => none }
def fnExactIsOnRow : OpenClaim := { program := "ytconoaphenahnaa", sum := "fcc03d4dbc56d268971d6b52ae8dfd2eb63705b63a4fcf4ed7b68e6e375cdc4e", func := "loop.example/g01030/laws.FnExactIsOn", spec := "fnExactIsOn", apart := false }
def FnExactIsOnSaid : Prop := fnExactIsOnRow.holds Try.pinned (OpenSpec.ofChange fnExactIsOnSpec)

/-- ITS FALSE NEIGHBOUR: 'it returns false'. Refute it at one input. -/
def fnExactIsOnWrong : ChangeSpec := { name := "fnExactIsOn", fn := fun _ => fun
  | [d1, d2, d3] => { results := [.lit (.bool false)], args := [d1, d2, d3] }
  | _ => none }
def FnExactIsOnWrongFalsely : Prop := fnExactIsOnRow.holds Try.pinned (OpenSpec.ofChange fnExactIsOnWrong)

/-- 'laws.FnExactDoCross': WHATEVER THE INPUT: true; the input reads as it did. -/
def fnExactDoCrossSpec : ChangeSpec := { name := "fnExactDoCross", fn := fun _ => fun
  | [d1, d2, d3, d4] => { results := [.lit (.bool true)], args := [d1, d2, d3, d4] }
  | _ => none }
def fnExactDoCrossRow : OpenClaim := { program := "ytconoaphenahnaa", sum := "fcc03d4dbc56d268971d6b52ae8dfd2eb63705b63a4fcf4ed7b68e6e375cdc4e", func := "loop.example/g01030/laws.FnExactDoCross", spec := "fnExactDoCross", apart := false }
def FnExactDoCrossSaid : Prop := fnExactDoCrossRow.holds Try.pinned (OpenSpec.ofChange fnExactDoCrossSpec)

/-- ITS FALSE NEIGHBOUR: 'it returns false'. Refute it at one input. -/
def fnExactDoCrossWrong : ChangeSpec := { name := "fnExactDoCross", fn := fun _ => fun
  | [d1, d2, d3, d4] => { results := [.lit (.bool false)], args := [d1, d2, d3, d4] }
  | _ => none }
def FnExactDoCrossWrongFalsely : Prop := fnExactDoCrossRow.holds Try.pinned (OpenSpec.ofChange fnExactDoCrossWrong)

/-- 'laws.FnExactDirectionOf': WHATEVER THE INPUT: true; the input reads as it did. -/
def fnExactDirectionOfSpec : ChangeSpec := { name := "fnExactDirectionOf", fn := fun _ => fun
  | [d1, d2] => { results := [.lit (.bool true)], args := [d1, d2] }
  | _ => none }
def fnExactDirectionOfRow : OpenClaim := { program := "ytconoaphenahnaa", sum := "fcc03d4dbc56d268971d6b52ae8dfd2eb63705b63a4fcf4ed7b68e6e375cdc4e", func := "loop.example/g01030/laws.FnExactDirectionOf", spec := "fnExactDirectionOf", apart := false }
def FnExactDirectionOfSaid : Prop := fnExactDirectionOfRow.holds Try.pinned (OpenSpec.ofChange fnExactDirectionOfSpec)

/-- ITS FALSE NEIGHBOUR: 'it returns false'. Refute it at one input. -/
def fnExactDirectionOfWrong : ChangeSpec := { name := "fnExactDirectionOf", fn := fun _ => fun
  | [d1, d2] => { results := [.lit (.bool false)], args := [d1, d2] }
  | _ => none }
def FnExactDirectionOfWrongFalsely : Prop := fnExactDirectionOfRow.holds Try.pinned (OpenSpec.ofChange fnExactDirectionOfWrong)

/-- 'laws.FnExactBoxOf': WHATEVER THE INPUT: true; the input reads as it did. -/
def fnExactBoxOfSpec : ChangeSpec := { name := "fnExactBoxOf", fn := fun _ => fun
  | [d] => { results := [.lit (.bool true)], args := [d] }
  | _ => none }
def fnExactBoxOfRow : OpenClaim := { program := "ytconoaphenahnaa", sum := "fcc03d4dbc56d268971d6b52ae8dfd2eb63705b63a4fcf4ed7b68e6e375cdc4e", func := "loop.example/g01030/laws.FnExactBoxOf", spec := "fnExactBoxOf", apart := false }
def FnExactBoxOfSaid : Prop := fnExactBoxOfRow.holds Try.pinned (OpenSpec.ofChange fnExactBoxOfSpec)

/-- ITS FALSE NEIGHBOUR: 'it returns false'. Refute it at one input. -/
def fnExactBoxOfWrong : ChangeSpec := { name := "fnExactBoxOf", fn := fun _ => fun
  | [d] => { results := [.lit (.bool false)], args := [d] }
  | _ => none }
def FnExactBoxOfWrongFalsely : Prop := fnExactBoxOfRow.holds Try.pinned (OpenSpec.ofChange fnExactBoxOfWrong)

/-- 'laws.FnExactNearestPoint': WHATEVER THE INPUT: true; the input reads as it did. -/
def fnExactNearestPointSpec : ChangeSpec := { name := "fnExactNearestPoint", fn := fun _ => fun
  | [d1, d2] => { results := [.lit (.bool true)], args := [d1, d2] }
  | _ => none }
def fnExactNearestPointRow : OpenClaim := { program := "ytconoaphenahnaa", sum := "fcc03d4dbc56d268971d6b52ae8dfd2eb63705b63a4fcf4ed7b68e6e375cdc4e", func := "loop.example/g01030/laws.FnExactNearestPoint", spec := "fnExactNearestPoint", apart := false }
def FnExactNearestPointSaid : Prop := fnExactNearestPointRow.holds Try.pinned (OpenSpec.ofChange fnExactNearestPointSpec)

/-- ITS FALSE NEIGHBOUR: 'it returns false'. Refute it at one input. -/
def fnExactNearestPointWrong : ChangeSpec := { name := "fnExactNearestPoint", fn := fun _ => fun
  | [d1, d2] => { results := [.lit (.bool false)], args := [d1, d2] }
  | _ => none }
def FnExactNearestPointWrongFalsely : Prop := fnExactNearestPointRow.holds Try.pinned (OpenSpec.ofChange fnExactNearestPointWrong)

/-- 'laws.FnExactIsRing': WHATEVER THE INPUT: true; the input reads as it did. -/
def fnExactIsRingSpec : ChangeSpec := { name := "fnExactIsRing", fn := fun _ => fun
  | [d] => { results := [.lit (.bool true)], args := [d] }
  | _ => none }
def fnExactIsRingRow : OpenClaim := { program := "ytconoaphenahnaa", sum := "fcc03d4dbc56d268971d6b52ae8dfd2eb63705b63a4fcf4ed7b68e6e375cdc4e", func := "loop.example/g01030/laws.FnExactIsRing", spec := "fnExactIsRing", apart := false }
def FnExactIsRingSaid : Prop := fnExactIsRingRow.holds Try.pinned (OpenSpec.ofChange fnExactIsRingSpec)

/-- ITS FALSE NEIGHBOUR: 'it returns false'. Refute it at one input. -/
def fnExactIsRingWrong : ChangeSpec := { name := "fnExactIsRing", fn := fun _ => fun
  | [d] => { results := [.lit (.bool false)], args := [d] }
  | _ => none }
def FnExactIsRingWrongFalsely : Prop := fnExactIsRingRow.holds Try.pinned (OpenSpec.ofChange fnExactIsRingWrong)

/-- 'laws.FnBoxes': WHATEVER THE INPUT: true; the input reads as it did. -/
def fnBoxesSpec : ChangeSpec := { name := "fnBoxes", fn := fun _ => fun
  | [d] => { results := [.lit (.bool true)], args := [d] }
  | _ => none }
def fnBoxesRow : OpenClaim := { program := "ytconoaphenahnaa", sum := "fcc03d4dbc56d268971d6b52ae8dfd2eb63705b63a4fcf4ed7b68e6e375cdc4e", func := "loop.example/g01030/laws.FnBoxes", spec := "fnBoxes", apart := false }
def FnBoxesSaid : Prop := fnBoxesRow.holds Try.pinned (OpenSpec.ofChange fnBoxesSpec)

/-- ITS FALSE NEIGHBOUR: 'it returns false'. Refute it at one input. -/
def fnBoxesWrong : ChangeSpec := { name := "fnBoxes", fn := fun _ => fun
  | [d] => { results := [.lit (.bool false)], args := [d] }
  | _ => none }
def FnBoxesWrongFalsely : Prop := fnBoxesRow.holds Try.pinned (OpenSpec.ofChange fnBoxesWrong)

/-- 'laws.FnExactIsConvex': WHATEVER THE INPUT: true; the input reads as it did. -/
def fnExactIsConvexSpec : ChangeSpec := { name := "fnExactIsConvex", fn := fun _ => fun
  | [d] => { results := [.lit (.bool true)], args := [d] }
  | _ => none }
def fnExactIsConvexRow : OpenClaim := { program := "ytconoaphenahnaa", sum := "fcc03d4dbc56d268971d6b52ae8dfd2eb63705b63a4fcf4ed7b68e6e375cdc4e", func := "loop.example/g01030/laws.FnExactIsConvex", spec := "fnExactIsConvex", apart := false }
def FnExactIsConvexSaid : Prop := fnExactIsConvexRow.holds Try.pinned (OpenSpec.ofChange fnExactIsConvexSpec)

/-- ITS FALSE NEIGHBOUR: 'it returns false'. Refute it at one input. -/
def fnExactIsConvexWrong : ChangeSpec := { name := "fnExactIsConvex", fn := fun _ => fun
  | [d] => { results := [.lit (.bool false)], args := [d] }
  | _ => none }
def FnExactIsConvexWrongFalsely : Prop := fnExactIsConvexRow.holds Try.pinned (OpenSpec.ofChange fnExactIsConvexWrong)

/-- 'laws.FnExactIsCounterclockwise': WHATEVER THE INPUT: true; the input reads as it did. -/
def fnExactIsCounterclockwiseSpec : ChangeSpec := { name := "fnExactIsCounterclockwise", fn := fun _ => fun
  | [d] => { results := [.lit (.bool true)], args := [d] }
  | _ => none }
def fnExactIsCounterclockwiseRow : OpenClaim := { program := "ytconoaphenahnaa", sum := "fcc03d4dbc56d268971d6b52ae8dfd2eb63705b63a4fcf4ed7b68e6e375cdc4e", func := "loop.example/g01030/laws.FnExactIsCounterclockwise", spec := "fnExactIsCounterclockwise", apart := false }
def FnExactIsCounterclockwiseSaid : Prop := fnExactIsCounterclockwiseRow.holds Try.pinned (OpenSpec.ofChange fnExactIsCounterclockwiseSpec)

/-- ITS FALSE NEIGHBOUR: 'it returns false'. Refute it at one input. -/
def fnExactIsCounterclockwiseWrong : ChangeSpec := { name := "fnExactIsCounterclockwise", fn := fun _ => fun
  | [d] => { results := [.lit (.bool false)], args := [d] }
  | _ => none }
def FnExactIsCounterclockwiseWrongFalsely : Prop := fnExactIsCounterclockwiseRow.holds Try.pinned (OpenSpec.ofChange fnExactIsCounterclockwiseWrong)

/- THE SECOND FORM. 'bulk': how many values and letters a reading holds, each counted each time it is reached (what is shared counts as often as it is met; a slice's spare places count too). A statement '..UptoSaid' is the law's where the arguments, and the package variables that the reading takes, are together of bulk at most 1048576: NARROWER than '..Said'. Prove '..Said' where nothing that the law and all that it calls make is longer than what came in: it says more and counts as full. Else prove '..UptoSaid'. A law counts once. -/
mutual
def uptoBulk {H : Type} : DataW H → Nat
  | .lit (.string bytes) => bytes.length + 1
  | .lit _ => 1
  | .nil => 1
  | .ptr d => uptoBulk d + 1
  | .slice elems spare => uptoBulkAll elems + uptoBulkAll spare + 1
  | .agg parts => uptoBulkAll parts + 1
  | .iface _ d => uptoBulk d + 1
  | .map entries => uptoBulkEntries entries + 1
  | .held _ => 1
def uptoBulkAll {H : Type} : List (DataW H) → Nat
  | [] => 0
  | d :: r => uptoBulk d + uptoBulkAll r
def uptoBulkEntries {H : Type} : List (Lit × DataW H) → Nat
  | [] => 0
  | x :: r => uptoBulkEntry x + uptoBulkEntries r
def uptoBulkEntry {H : Type} : Lit × DataW H → Nat
  | (.string bytes, d) => bytes.length + uptoBulk d + 1
  | (_, d) => uptoBulk d + 1
 end
def uptoSmall : (H : Type) → List (DataW H) → Bool := fun _ ds => decide (uptoBulkAll ds ≤ 1048576)
def OpenSpec.upto (s : _root_.Go.ChangeSpec) : _root_.Go.OpenSpec := { _root_.Go.OpenSpec.ofChange s with cond := some uptoSmall }

/-- 'laws.FnExactIsPoint', WHERE WHAT IT READS IS OF BULK AT MOST 1048576: true; the input reads as it did. -/
def fnExactIsPointUptoRow : OpenClaim := { program := "ytconoaphenahnaa", sum := "fcc03d4dbc56d268971d6b52ae8dfd2eb63705b63a4fcf4ed7b68e6e375cdc4e", func := "loop.example/g01030/laws.FnExactIsPoint", spec := "fnExactIsPoint", apart := false, narrowed := true }
def FnExactIsPointUptoSaid : Prop := fnExactIsPointUptoRow.holds Try.pinned (OpenSpec.upto fnExactIsPointSpec)

/-- 'laws.FnExactSquaredDistance', WHERE WHAT IT READS IS OF BULK AT MOST 1048576: true; the input reads as it did. -/
def fnExactSquaredDistanceUptoRow : OpenClaim := { program := "ytconoaphenahnaa", sum := "fcc03d4dbc56d268971d6b52ae8dfd2eb63705b63a4fcf4ed7b68e6e375cdc4e", func := "loop.example/g01030/laws.FnExactSquaredDistance", spec := "fnExactSquaredDistance", apart := false, narrowed := true }
def FnExactSquaredDistanceUptoSaid : Prop := fnExactSquaredDistanceUptoRow.holds Try.pinned (OpenSpec.upto fnExactSquaredDistanceSpec)

/-- 'laws.FnExactTurnOf', WHERE WHAT IT READS IS OF BULK AT MOST 1048576: true; the input reads as it did. -/
def fnExactTurnOfUptoRow : OpenClaim := { program := "ytconoaphenahnaa", sum := "fcc03d4dbc56d268971d6b52ae8dfd2eb63705b63a4fcf4ed7b68e6e375cdc4e", func := "loop.example/g01030/laws.FnExactTurnOf", spec := "fnExactTurnOf", apart := false, narrowed := true }
def FnExactTurnOfUptoSaid : Prop := fnExactTurnOfUptoRow.holds Try.pinned (OpenSpec.upto fnExactTurnOfSpec)

/-- 'laws.FnExactIsOn', WHERE WHAT IT READS IS OF BULK AT MOST 1048576: true; the input reads as it did. -/
def fnExactIsOnUptoRow : OpenClaim := { program := "ytconoaphenahnaa", sum := "fcc03d4dbc56d268971d6b52ae8dfd2eb63705b63a4fcf4ed7b68e6e375cdc4e", func := "loop.example/g01030/laws.FnExactIsOn", spec := "fnExactIsOn", apart := false, narrowed := true }
def FnExactIsOnUptoSaid : Prop := fnExactIsOnUptoRow.holds Try.pinned (OpenSpec.upto fnExactIsOnSpec)

/-- 'laws.FnExactDoCross', WHERE WHAT IT READS IS OF BULK AT MOST 1048576: true; the input reads as it did. -/
def fnExactDoCrossUptoRow : OpenClaim := { program := "ytconoaphenahnaa", sum := "fcc03d4dbc56d268971d6b52ae8dfd2eb63705b63a4fcf4ed7b68e6e375cdc4e", func := "loop.example/g01030/laws.FnExactDoCross", spec := "fnExactDoCross", apart := false, narrowed := true }
def FnExactDoCrossUptoSaid : Prop := fnExactDoCrossUptoRow.holds Try.pinned (OpenSpec.upto fnExactDoCrossSpec)

/-- 'laws.FnExactDirectionOf', WHERE WHAT IT READS IS OF BULK AT MOST 1048576: true; the input reads as it did. -/
def fnExactDirectionOfUptoRow : OpenClaim := { program := "ytconoaphenahnaa", sum := "fcc03d4dbc56d268971d6b52ae8dfd2eb63705b63a4fcf4ed7b68e6e375cdc4e", func := "loop.example/g01030/laws.FnExactDirectionOf", spec := "fnExactDirectionOf", apart := false, narrowed := true }
def FnExactDirectionOfUptoSaid : Prop := fnExactDirectionOfUptoRow.holds Try.pinned (OpenSpec.upto fnExactDirectionOfSpec)

/-- 'laws.FnExactBoxOf', WHERE WHAT IT READS IS OF BULK AT MOST 1048576: true; the input reads as it did. -/
def fnExactBoxOfUptoRow : OpenClaim := { program := "ytconoaphenahnaa", sum := "fcc03d4dbc56d268971d6b52ae8dfd2eb63705b63a4fcf4ed7b68e6e375cdc4e", func := "loop.example/g01030/laws.FnExactBoxOf", spec := "fnExactBoxOf", apart := false, narrowed := true }
def FnExactBoxOfUptoSaid : Prop := fnExactBoxOfUptoRow.holds Try.pinned (OpenSpec.upto fnExactBoxOfSpec)

/-- 'laws.FnExactNearestPoint', WHERE WHAT IT READS IS OF BULK AT MOST 1048576: true; the input reads as it did. -/
def fnExactNearestPointUptoRow : OpenClaim := { program := "ytconoaphenahnaa", sum := "fcc03d4dbc56d268971d6b52ae8dfd2eb63705b63a4fcf4ed7b68e6e375cdc4e", func := "loop.example/g01030/laws.FnExactNearestPoint", spec := "fnExactNearestPoint", apart := false, narrowed := true }
def FnExactNearestPointUptoSaid : Prop := fnExactNearestPointUptoRow.holds Try.pinned (OpenSpec.upto fnExactNearestPointSpec)

/-- 'laws.FnExactIsRing', WHERE WHAT IT READS IS OF BULK AT MOST 1048576: true; the input reads as it did. -/
def fnExactIsRingUptoRow : OpenClaim := { program := "ytconoaphenahnaa", sum := "fcc03d4dbc56d268971d6b52ae8dfd2eb63705b63a4fcf4ed7b68e6e375cdc4e", func := "loop.example/g01030/laws.FnExactIsRing", spec := "fnExactIsRing", apart := false, narrowed := true }
def FnExactIsRingUptoSaid : Prop := fnExactIsRingUptoRow.holds Try.pinned (OpenSpec.upto fnExactIsRingSpec)

/-- 'laws.FnBoxes', WHERE WHAT IT READS IS OF BULK AT MOST 1048576: true; the input reads as it did. -/
def fnBoxesUptoRow : OpenClaim := { program := "ytconoaphenahnaa", sum := "fcc03d4dbc56d268971d6b52ae8dfd2eb63705b63a4fcf4ed7b68e6e375cdc4e", func := "loop.example/g01030/laws.FnBoxes", spec := "fnBoxes", apart := false, narrowed := true }
def FnBoxesUptoSaid : Prop := fnBoxesUptoRow.holds Try.pinned (OpenSpec.upto fnBoxesSpec)

/-- 'laws.FnExactIsConvex', WHERE WHAT IT READS IS OF BULK AT MOST 1048576: true; the input reads as it did. -/
def fnExactIsConvexUptoRow : OpenClaim := { program := "ytconoaphenahnaa", sum := "fcc03d4dbc56d268971d6b52ae8dfd2eb63705b63a4fcf4ed7b68e6e375cdc4e", func := "loop.example/g01030/laws.FnExactIsConvex", spec := "fnExactIsConvex", apart := false, narrowed := true }
def FnExactIsConvexUptoSaid : Prop := fnExactIsConvexUptoRow.holds Try.pinned (OpenSpec.upto fnExactIsConvexSpec)

/-- 'laws.FnExactIsCounterclockwise', WHERE WHAT IT READS IS OF BULK AT MOST 1048576: true; the input reads as it did. -/
def fnExactIsCounterclockwiseUptoRow : OpenClaim := { program := "ytconoaphenahnaa", sum := "fcc03d4dbc56d268971d6b52ae8dfd2eb63705b63a4fcf4ed7b68e6e375cdc4e", func := "loop.example/g01030/laws.FnExactIsCounterclockwise", spec := "fnExactIsCounterclockwise", apart := false, narrowed := true }
def FnExactIsCounterclockwiseUptoSaid : Prop := fnExactIsCounterclockwiseUptoRow.holds Try.pinned (OpenSpec.upto fnExactIsCounterclockwiseSpec)

end Rows
end Go.Proofs.Ytconoaphenahnaa
