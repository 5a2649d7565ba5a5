/-
  No cell of these rows narrows 'for every input' (looked for: loops, veiled, ifaces, maps, wideKeys, modest, calm, conditions, laid).
  DERIVED. THE GIVEN ROWS OF THIS SEAT. 4 by the template 'for every input the law returns true; each argument reads behind the call as it read before'; 0 by the template 'total and deterministic' (their statements: YteppjdoggjcdoaaTotals.lean).
  GIVEN WITH THE SEED: the statements are not yours to turn. If you find one false, say at which input.
  Laid BY PROGRAM, IN A SANDBOX (cutbox-rows.mjs): the forced cells as the released guide's own fill.sh prints them over the translation b249153548c9a42a… (all of the seat's roots in one cut). By AI agents, Wed Nov 11 2026. No macro, syntax, notation, axiom, sorry.
-/
import Derived.Test.YteppjdoggjcdoaaChecked
import GoSem.Claim
import GoSem.ClaimJoined
import GoSem.ClaimMapViews
import Derived.JoinedTies
import Derived.KernelRfl
namespace Go.Proofs.Yteppjdoggjcdoaa
/- THE CELL 'sum', in the pinned program and in every row, IS THE sha256 OF THE DUMP (.gsa) THAT YteppjdoggjcdoaaProg.lean LOADS. Nothing in Lean hashes anything: it is a label: what it is worth is what the hold of that sum in a sandbox is worth. -/
noncomputable def Try.pinned : Pinned := { name := "yteppjdoggjcdoaa", sum := "b249153548c9a42a75096b79dce75bb65a5913c6fe67e4ba0043216c886f0c95", checked := Try.checked }
namespace Rows
def none {H : Type} : Left H := { results := [], args := [] }

/-- 'laws.FnRings': WHATEVER THE INPUT: true; the input reads as it did. -/
def fnRingsSpec : ChangeSpec := { name := "fnRings", fn := fun _ => fun
  | [d] => { results := [.lit (.bool true)], args := [d] }
  | _ => none }
def fnRingsRow : OpenClaim := { program := "yteppjdoggjcdoaa", sum := "b249153548c9a42a75096b79dce75bb65a5913c6fe67e4ba0043216c886f0c95", func := "loop.example/g01030/laws.FnRings", spec := "fnRings", apart := false }
def FnRingsSaid : Prop := fnRingsRow.holds Try.pinned (OpenSpec.ofChange fnRingsSpec)

/-- ITS FALSE NEIGHBOUR: 'it returns false'. Refute it at one input. -/
def fnRingsWrong : ChangeSpec := { name := "fnRings", fn := fun _ => fun
  | [d] => { results := [.lit (.bool false)], args := [d] }
  | _ => none }
def FnRingsWrongFalsely : Prop := fnRingsRow.holds Try.pinned (OpenSpec.ofChange fnRingsWrong)

/-- 'laws.FnExactMergeAreas': WHATEVER THE INPUT: true; the input reads as it did. -/
def fnExactMergeAreasSpec : ChangeSpec := { name := "fnExactMergeAreas", fn := fun _ => fun
  | [d1, d2, d3] => { results := [.lit (.bool true)], args := [d1, d2, d3] }
  | _ => none }
def fnExactMergeAreasRow : OpenClaim := { program := "yteppjdoggjcdoaa", sum := "b249153548c9a42a75096b79dce75bb65a5913c6fe67e4ba0043216c886f0c95", func := "loop.example/g01030/laws.FnExactMergeAreas", spec := "fnExactMergeAreas", unfollowed := true, recurses := true, apart := false }
def FnExactMergeAreasSaid : Prop := fnExactMergeAreasRow.holds Try.pinned (OpenSpec.ofChange fnExactMergeAreasSpec)

/-- ITS FALSE NEIGHBOUR: 'it returns false'. Refute it at one input. -/
def fnExactMergeAreasWrong : ChangeSpec := { name := "fnExactMergeAreas", fn := fun _ => fun
  | [d1, d2, d3] => { results := [.lit (.bool false)], args := [d1, d2, d3] }
  | _ => none }
def FnExactMergeAreasWrongFalsely : Prop := fnExactMergeAreasRow.holds Try.pinned (OpenSpec.ofChange fnExactMergeAreasWrong)

/-- 'laws.FnSplitAreas': WHATEVER THE INPUT: true; the input reads as it did. -/
def fnSplitAreasSpec : ChangeSpec := { name := "fnSplitAreas", fn := fun _ => fun
  | [d] => { results := [.lit (.bool true)], args := [d] }
  | _ => none }
def fnSplitAreasRow : OpenClaim := { program := "yteppjdoggjcdoaa", sum := "b249153548c9a42a75096b79dce75bb65a5913c6fe67e4ba0043216c886f0c95", func := "loop.example/g01030/laws.FnSplitAreas", spec := "fnSplitAreas", unfollowed := true, recurses := true, apart := false }
def FnSplitAreasSaid : Prop := fnSplitAreasRow.holds Try.pinned (OpenSpec.ofChange fnSplitAreasSpec)

/-- ITS FALSE NEIGHBOUR: 'it returns false'. Refute it at one input. -/
def fnSplitAreasWrong : ChangeSpec := { name := "fnSplitAreas", fn := fun _ => fun
  | [d] => { results := [.lit (.bool false)], args := [d] }
  | _ => none }
def FnSplitAreasWrongFalsely : Prop := fnSplitAreasRow.holds Try.pinned (OpenSpec.ofChange fnSplitAreasWrong)

/-- 'laws.FnMaps': WHATEVER THE INPUT: true; the input reads as it did. -/
def fnMapsSpec : ChangeSpec := { name := "fnMaps", fn := fun _ => fun
  | [d] => { results := [.lit (.bool true)], args := [d] }
  | _ => none }
def fnMapsRow : OpenClaim := { program := "yteppjdoggjcdoaa", sum := "b249153548c9a42a75096b79dce75bb65a5913c6fe67e4ba0043216c886f0c95", func := "loop.example/g01030/laws.FnMaps", spec := "fnMaps", unfollowed := true, recurses := true, apart := false }
def FnMapsSaid : Prop := fnMapsRow.holds Try.pinned (OpenSpec.ofChange fnMapsSpec)

/-- ITS FALSE NEIGHBOUR: 'it returns false'. Refute it at one input. -/
def fnMapsWrong : ChangeSpec := { name := "fnMaps", fn := fun _ => fun
  | [d] => { results := [.lit (.bool false)], args := [d] }
  | _ => none }
def FnMapsWrongFalsely : Prop := fnMapsRow.holds Try.pinned (OpenSpec.ofChange fnMapsWrong)

/- THE SECOND FORM. 'bulk': how many values and letters a reading holds, each counted each time it is reached (what is shared counts as often as it is met; a slice's spare places count too). A statement '..UptoSaid' is the law's where the arguments, and the package variables that the reading takes, are together of bulk at most 1048576: NARROWER than '..Said'. Prove '..Said' where nothing that the law and all that it calls make is longer than what came in: it says more and counts as full. Else prove '..UptoSaid'. A law counts once. -/
mutual
def uptoBulk {H : Type} : DataW H → Nat
  | .lit (.string bytes) => bytes.length + 1
  | .lit _ => 1
  | .nil => 1
  | .ptr d => uptoBulk d + 1
  | .slice elems spare => uptoBulkAll elems + uptoBulkAll spare + 1
  | .agg parts => uptoBulkAll parts + 1
  | .iface _ d => uptoBulk d + 1
  | .map entries => uptoBulkEntries entries + 1
  | .held _ => 1
def uptoBulkAll {H : Type} : List (DataW H) → Nat
  | [] => 0
  | d :: r => uptoBulk d + uptoBulkAll r
def uptoBulkEntries {H : Type} : List (Lit × DataW H) → Nat
  | [] => 0
  | x :: r => uptoBulkEntry x + uptoBulkEntries r
def uptoBulkEntry {H : Type} : Lit × DataW H → Nat
  | (.string bytes, d) => bytes.length + uptoBulk d + 1
  | (_, d) => uptoBulk d + 1
 end
def uptoSmall : (H : Type) → List (DataW H) → Bool := fun _ ds => decide (uptoBulkAll ds ≤ 1048576)
def OpenSpec.upto (s : _root_.Go.ChangeSpec) : _root_.Go.OpenSpec := { _root_.Go.OpenSpec.ofChange s with cond := some uptoSmall }

/-- 'laws.FnRings', WHERE WHAT IT READS IS OF BULK AT MOST 1048576: true; the input reads as it did. -/
def fnRingsUptoRow : OpenClaim := { program := "yteppjdoggjcdoaa", sum := "b249153548c9a42a75096b79dce75bb65a5913c6fe67e4ba0043216c886f0c95", func := "loop.example/g01030/laws.FnRings", spec := "fnRings", apart := false, narrowed := true }
def FnRingsUptoSaid : Prop := fnRingsUptoRow.holds Try.pinned (OpenSpec.upto fnRingsSpec)

/-- 'laws.FnExactMergeAreas', WHERE WHAT IT READS IS OF BULK AT MOST 1048576: true; the input reads as it did. -/
def fnExactMergeAreasUptoRow : OpenClaim := { program := "yteppjdoggjcdoaa", sum := "b249153548c9a42a75096b79dce75bb65a5913c6fe67e4ba0043216c886f0c95", func := "loop.example/g01030/laws.FnExactMergeAreas", spec := "fnExactMergeAreas", unfollowed := true, recurses := true, apart := false, narrowed := true }
def FnExactMergeAreasUptoSaid : Prop := fnExactMergeAreasUptoRow.holds Try.pinned (OpenSpec.upto fnExactMergeAreasSpec)

/-- 'laws.FnSplitAreas', WHERE WHAT IT READS IS OF BULK AT MOST 1048576: true; the input reads as it did. -/
def fnSplitAreasUptoRow : OpenClaim := { program := "yteppjdoggjcdoaa", sum := "b249153548c9a42a75096b79dce75bb65a5913c6fe67e4ba0043216c886f0c95", func := "loop.example/g01030/laws.FnSplitAreas", spec := "fnSplitAreas", unfollowed := true, recurses := true, apart := false, narrowed := true }
def FnSplitAreasUptoSaid : Prop := fnSplitAreasUptoRow.holds Try.pinned (OpenSpec.upto fnSplitAreasSpec)

/-- 'laws.FnMaps', WHERE WHAT IT READS IS OF BULK AT MOST 1048576: true; the input reads as it did. -/
def fnMapsUptoRow : OpenClaim := { program := "yteppjdoggjcdoaa", sum := "b249153548c9a42a75096b79dce75bb65a5913c6fe67e4ba0043216c886f0c95", func := "loop.example/g01030/laws.FnMaps", spec := "fnMaps", unfollowed := true, recurses := true, apart := false, narrowed := true }
def FnMapsUptoSaid : Prop := fnMapsUptoRow.holds Try.pinned (OpenSpec.upto fnMapsSpec)

end Rows
end Go.Proofs.Yteppjdoggjcdoaa
