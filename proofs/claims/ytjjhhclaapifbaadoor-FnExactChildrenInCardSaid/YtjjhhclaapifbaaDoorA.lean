/- Contracts of the plain functions on numbers and points, walked over the translation. -/
import Derived.Test.YtjjhhclaapifbaaDoorProg
import Derived.Test.YtjjhhclaapifbaaDoor0
import Derived.Test.YtjjhhclaapifbaaDoorQ
import Derived.WalkLawsBesides
import Derived.WalkSpells
import Derived.Lib.MinMax
import Derived.Outline
namespace Go.Proofs.YtjjhhclaapifbaaDoor
open Go.RowKit
attribute [local go_sem] ExtOf.cell ExtOf.frozen

theorem ret_int {k : IntKind} {a b : Int} (h : a = b) : Ending.returned (.int k a) = .returned (.int k b) := by rw [h]
/-- x lies between lo and hi -/
def inB (x lo hi : Int) : Bool := decide (lo ≤ x) && decide (x ≤ hi)

theorem within_any (x lo hi : Int) (w : World) : Calls Tryd.prog 55 #[.int .i64 x, .int .i64 lo, .int .i64 hi] w fun e w' => e = .returned (.bool (inB x lo hi)) ∧ w = w' := by
  go_enter Tryd.func55, Tryd.ntmps55
  go_wp2
  all_goals go_ret
  all_goals refine ⟨?_, rfl⟩
  all_goals (simp [inB, *]; try omega)

theorem l01In_any (x lo hi : Int) (w : World) : Calls Tryd.prog 44 #[.int .i64 x, .int .i64 lo, .int .i64 hi] w fun e w' => e = .returned (.bool (inB x lo hi)) ∧ w = w' := by
  go_enter Tryd.func44, Tryd.ntmps44
  go_wp2
  all_goals go_ret
  all_goals refine ⟨?_, rfl⟩
  all_goals (simp [inB, *]; try omega)

def okP (x y : Int) : Bool := inB x (-1000) 1000 && inB y (-1000) 1000

/-- the turn of three points, as the text reckons it -/
def turnW (ax ay bx by' cx cy : Int) : Int :=
  wrap64 (wrap64 (wrap64 (bx - ax) * wrap64 (cy - ay)) - wrap64 (wrap64 (by' - ay) * wrap64 (cx - ax)))
def sqW (ax ay bx by' : Int) : Int := wrap64 (wrap64 (wrap64 (ax - bx) * wrap64 (ax - bx)) + wrap64 (wrap64 (ay - by') * wrap64 (ay - by')))
def onW (ax ay bx by' px py : Int) : Bool := (turnW ax ay bx by' px py == 0) && inB px (min ax bx) (max ax bx) && inB py (min ay by') (max ay by')
def sgn (x : Int) : Int := max (-1) (min 1 x)
def absW (x : Int) : Int := max x (wrap64 (-x))

end Go.Proofs.YtjjhhclaapifbaaDoor
