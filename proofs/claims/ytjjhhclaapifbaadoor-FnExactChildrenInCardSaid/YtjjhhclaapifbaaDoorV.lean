/- Contracts of the rings: borders, exported functions, walked over the translation. -/
import Derived.Test.YtjjhhclaapifbaaDoorU
import Derived.Test.YtjjhhclaapifbaaDoorW
import Derived.Deep.DeepCutAuto
import Derived.RegionTactic
import Derived.BigRegion
import Derived.WalkLawsBesides
import Derived.WalkSpells
import Derived.Lib.MinMax
import Derived.Outline
namespace Go.Proofs.YtjjhhclaapifbaaDoor
open Go.RowKit
attribute [local go_sem] ExtOf.cell ExtOf.frozen





def gcdI (x z : Int) : Nat := Nat.gcd x.natAbs z.natAbs
theorem gcd_le (a b : Nat) : Nat.gcd a b ≤ a + b := by
  rcases Nat.eq_zero_or_pos a with h | h
  · subst h; simp
  · have := Nat.gcd_le_left b h; omega
theorem gcd_step {a b g : Nat} (h : Hid (Nat.gcd a b = g)) : Hid (Nat.gcd b (a % b) = g) := by
  show _ = _
  rw [← h.out, Nat.gcd_comm b, ← Nat.gcd_rec, Nat.gcd_comm]
def edgeG (ps : List (Int × Int)) (k : Int) : Nat := gcdI (ptx ps (k + 1) - ptx ps k) (ptz ps (k + 1) - ptz ps k)
theorem edgeG_sym (ps : List (Int × Int)) (k : Int) : Hid (Nat.gcd (ptx ps k - ptx ps (k + 1)).natAbs (ptz ps k - ptz ps (k + 1)).natAbs = edgeG ps k) := by
  show _ = _
  unfold edgeG gcdI
  rw [← Int.natAbs_neg (ptx ps k - ptx ps (k + 1)), ← Int.natAbs_neg (ptz ps k - ptz ps (k + 1)), Int.neg_sub, Int.neg_sub]
def borderTo (ps : List (Int × Int)) : Nat → Int
  | 0 => 0
  | k + 1 => borderTo ps k + (edgeG ps k : Int)
theorem edgeG_bd {ps : List (Int × Int)} (h : oks ps = true) (k : Int) : edgeG ps k ≤ 4000 := by
  have a := ptx_bd h k
  have b := ptx_bd h (k + 1)
  have c := ptz_bd h k
  have d := ptz_bd h (k + 1)
  have := gcd_le (ptx ps (k + 1) - ptx ps k).natAbs (ptz ps (k + 1) - ptz ps k).natAbs
  unfold edgeG gcdI
  omega
theorem borderTo_bd {ps : List (Int × Int)} (h : oks ps = true) : ∀ k : Nat, 0 ≤ borderTo ps k ∧ borderTo ps k ≤ 4000 * (k : Int)
  | 0 => by simp [borderTo]
  | k + 1 => by
    have h1 := borderTo_bd h k
    have h2 := edgeG_bd h k
    simp only [borderTo]
    omega
def borderZ (ps : List (Int × Int)) : Int := borderTo ps ps.length

end Go.Proofs.YtjjhhclaapifbaaDoor
