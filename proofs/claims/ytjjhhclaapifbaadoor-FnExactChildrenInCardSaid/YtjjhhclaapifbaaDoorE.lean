/- '==' of structs: points. -/
import Derived.Test.YtjjhhclaapifbaaDoorProg
import Derived.Test.YtjjhhclaapifbaaDoor0
import Derived.WalkLawsBesides
import Derived.Laws.StructEq
import Derived.KernelRfl
namespace Go.Proofs.YtjjhhclaapifbaaDoor
open Go.RowKit

/-- two points are one -/
def eqP (ax az bx bz : Int) : Bool := ax == bx && az == bz
theorem eqP_iff {ax az bx bz : Int} : eqP ax az bx bz = true ↔ ax = bx ∧ az = bz := by simp [eqP]

end Go.Proofs.YtjjhhclaapifbaaDoor
