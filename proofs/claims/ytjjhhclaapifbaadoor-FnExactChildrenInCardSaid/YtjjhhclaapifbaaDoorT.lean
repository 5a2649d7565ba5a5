/- Contracts of the rings: the reference's test of a ring; laws, walked over the translation. -/
import Derived.Test.YtjjhhclaapifbaaDoorS
import Derived.RegionTactic
import Derived.BigRegion
import Derived.WalkLawsBesides
import Derived.WalkSpells
import Derived.Lib.MinMax
import Derived.Outline
namespace Go.Proofs.YtjjhhclaapifbaaDoor
open Go.RowKit
attribute [local go_sem] ExtOf.cell ExtOf.frozen






/-- corner k differs from the first m -/
def Differs (ps : List (Int × Int)) (k m : Nat) : Prop := ∀ j : Nat, j < m → ¬ (ptx ps k = ptx ps j ∧ ptz ps k = ptz ps j)
theorem Differs.succ {ps : List (Int × Int)} {k m : Nat} (h : Differs ps k m) (e : eqP (ptx ps k) (ptz ps k) (ptx ps m) (ptz ps m) = false) : Differs ps k (m + 1) := fun j hj => by
  rcases Nat.lt_or_ge j m with h1 | h1
  · exact h j h1
  · obtain rfl : j = m := by omega
    exact ne_of_eqP e
theorem Turned.succ' {ps : List (Int × Int)} {k : Nat} (h : Turned ps k) (ht : turnI ps k ≠ 0) (hd : Differs ps k k) : Turned ps (k + 1) := by
  refine ⟨fun i hi => ?_, fun i j hj hi e => ?_⟩
  · rcases Nat.lt_or_ge i k with h1 | h1
    · exact h.1 i h1
    · rw [show i = k by omega]; exact ht
  · rcases Nat.lt_or_ge i k with h1 | h1
    · exact h.2 i j hj h1 e
    · rw [show i = k by omega] at e hj
      exact hd j hj e
theorem apB_next {ps : List (Int × Int)} {i k : Nat} (h : k = i + 1 ∨ (i = 0 ∧ k + 1 = ps.length)) : apB ps i k = true := by simp [apB, h]
theorem apB_cross {ps : List (Int × Int)} {i k : Nat} (h : crossI ps i k = false) : apB ps i k = true := by simp [apB, h]
theorem apB_no {ps : List (Int × Int)} {i k : Nat} (h : crossI ps i k = true) (h1 : ¬ k = i + 1) (h2 : ¬ (i = 0 ∧ k + 1 = ps.length)) : apB ps i k = false := by
  unfold apB
  rw [h, decide_eq_false (by rintro (h | h); exact h1 h; exact h2 h)]
  rfl

end Go.Proofs.YtjjhhclaapifbaaDoor
