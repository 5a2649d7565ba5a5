/- Contracts of the rings: areas, borders, walked over the translation. -/
import Derived.Test.YtjjhhclaapifbaaDoorT
import Derived.Test.YtjjhhclaapifbaaDoorW
import Derived.Deep.DeepCutAuto
import Derived.RegionTactic
import Derived.BigRegion
import Derived.WalkLawsBesides
import Derived.WalkSpells
import Derived.Lib.MinMax
import Derived.Outline
namespace Go.Proofs.YtjjhhclaapifbaaDoor
open Go.RowKit
attribute [local go_sem] ExtOf.cell ExtOf.frozen





theorem oks_bd {ps : List (Int × Int)} (h : oks ps = true) (k : Nat) : (-1000 ≤ (ps.getD k (0, 0)).1 ∧ (ps.getD k (0, 0)).1 ≤ 1000) ∧ -1000 ≤ (ps.getD k (0, 0)).2 ∧ (ps.getD k (0, 0)).2 ≤ 1000 := by
  by_cases hk : k < ps.length
  · have := List.all_eq_true.1 h ps[k] (List.getElem_mem hk)
    simp [okP, inB] at this
    simp [List.getD, hk]
    omega
  · simp [List.getD, List.getElem?_eq_none (Nat.le_of_not_lt hk)]
theorem ptx_bd {ps : List (Int × Int)} (h : oks ps = true) (i : Int) : -1000 ≤ ptx ps i ∧ ptx ps i ≤ 1000 := (oks_bd h _).1
theorem ptz_bd {ps : List (Int × Int)} (h : oks ps = true) (i : Int) : -1000 ≤ ptz ps i ∧ ptz ps i ≤ 1000 := (oks_bd h _).2
theorem mul_bd {x y : Int} (hx : -1000 ≤ x ∧ x ≤ 1000) (hy : -1000 ≤ y ∧ y ≤ 1000) : -1000000 ≤ x * y ∧ x * y ≤ 1000000 := by
  have a := Int.mul_nonneg (show 0 ≤ 1000 - x by omega) (show 0 ≤ 1000 - y by omega)
  have b := Int.mul_nonneg (show 0 ≤ 1000 + x by omega) (show 0 ≤ 1000 + y by omega)
  have c := Int.mul_nonneg (show 0 ≤ 1000 - x by omega) (show 0 ≤ 1000 + y by omega)
  have d := Int.mul_nonneg (show 0 ≤ 1000 + x by omega) (show 0 ≤ 1000 - y by omega)
  simp only [Int.sub_mul, Int.mul_sub, Int.add_mul, Int.mul_add] at a b c d
  omega
/-- the sum over the first k edges, twice the area at the end -/
def areaTo (ps : List (Int × Int)) : Nat → Int
  | 0 => 0
  | k + 1 => areaTo ps k + (ptx ps k * ptz ps (k + 1) - ptz ps k * ptx ps (k + 1))
theorem areaTo_bd {ps : List (Int × Int)} (h : oks ps = true) : ∀ k : Nat, -(2000000 * (k : Int)) ≤ areaTo ps k ∧ areaTo ps k ≤ 2000000 * (k : Int)
  | 0 => by simp [areaTo]
  | k + 1 => by
    have h1 := areaTo_bd h k
    have h2 := mul_bd (ptx_bd h k) (ptz_bd h (k + 1))
    have h3 := mul_bd (ptz_bd h k) (ptx_bd h (k + 1))
    simp only [areaTo]
    omega
def areaZ (ps : List (Int × Int)) : Int := areaTo ps ps.length

end Go.Proofs.YtjjhhclaapifbaaDoor
