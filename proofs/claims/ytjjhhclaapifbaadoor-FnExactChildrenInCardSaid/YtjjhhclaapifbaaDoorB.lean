/- Contracts of the functions on segments and directions, walked over the translation. -/
import Derived.Test.YtjjhhclaapifbaaDoorA
import Derived.WalkLawsBesides
import Derived.WalkSpells
import Derived.Lib.MinMax
import Derived.Outline
namespace Go.Proofs.YtjjhhclaapifbaaDoor
open Go.RowKit
attribute [local go_sem] ExtOf.cell ExtOf.frozen

def crossW (ax ay bx by' cx cy dx dy : Int) : Bool :=
  onW ax ay bx by' cx cy || onW ax ay bx by' dx dy || onW cx cy dx dy ax ay || onW cx cy dx dy bx by' ||
    (decide (sgn (turnW ax ay bx by' cx cy) * sgn (turnW ax ay bx by' dx dy) < 0) && decide (sgn (turnW cx cy dx dy ax ay) * sgn (turnW cx cy dx dy bx by') < 0))
theorem sgn_bd (x : Int) : -1 ≤ sgn x ∧ sgn x ≤ 1 := by unfold sgn; omega
theorem sgn_mul (x y : Int) : -1 ≤ sgn x * sgn y ∧ sgn x * sgn y ≤ 1 := by
  rcases (show sgn x = -1 ∨ sgn x = 0 ∨ sgn x = 1 by unfold sgn; omega) with h | h | h <;> rw [h] <;> have := sgn_bd y <;> omega
theorem absW_bd (x b : Int) (h : -b ≤ x) (h' : x ≤ b) (hb : b ≤ 1000000000000) : 0 ≤ absW x ∧ absW x ≤ b := by unfold absW wrap64; omega
/-- the value at a corner of the table of directions -/
def dirT (dy dx : Int) : Int :=
  if dy < 0 then (if dx < 0 then 5 else if dx = 0 then 4 else 3) else if dy = 0 then (if dx < 0 then 6 else if dx = 0 then 0 else 2) else (if dx < 0 then 7 else if dx = 0 then 0 else 1)
/-- the direction, of the differences -/
def dirZ (dx dy : Int) : Int :=
  if 2 * absW dx < absW dy then dirT dy 0 else if 2 * absW dy < absW dx then dirT 0 dx else dirT dy dx

end Go.Proofs.YtjjhhclaapifbaaDoor
