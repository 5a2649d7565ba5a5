/- Contracts of the the plain laws of FnBoxes, walked over the translation. -/
import Derived.Test.YtconoaphenahnaaDB
import Derived.Test.YtconoaphenahnaaP
import Derived.Deep.RegionHeld3
import Derived.Deep.DeepCutAuto
import Derived.RegionTactic
import Derived.BigRegion
import Derived.WalkLawsBesides
import Derived.WalkSpells
import Derived.Lib.MinMax
import Derived.Outline
namespace Go.Proofs.Ytconoaphenahnaa
open Go.RowKit
attribute [local go_sem] ExtOf.cell ExtOf.frozen








theorem bst_least (ps : List (Int × Int)) (px pz : Int) : ∀ n k : Nat, k < n → sqW (ps.getD (bst ps px pz n) (0, 0)).1 (ps.getD (bst ps px pz n) (0, 0)).2 px pz ≤ sqW (ps.getD k (0, 0)).1 (ps.getD k (0, 0)).2 px pz
  | 0, k, h => by omega
  | n + 1, k, h => by
    unfold bst
    split
    · rename_i hlt
      by_cases e : k = n
      · subst e; exact Int.le_refl _
      · exact Int.le_trans (Int.le_of_lt hlt) (bst_least ps px pz n k (by omega))
    · rename_i hlt
      by_cases e : k = n
      · subst e; omega
      · exact bst_least ps px pz n k (by omega)
theorem l_big' (A : Option Addr) (c : Nat) (n : Nat) (w : World) : Calls Try.prog 38 #[.slice A n c] w fun e w' => e = .returned (.bool (decide (4096 < n))) ∧ w = w' := by
  go_enter Try.func38, Try.ntmps38
  go_wp2
  go_ret
  exact ⟨ret_bool (by simp; try omega), rfl⟩

theorem fold_lo : ∀ (ps : List (Int × Int)) (a : Int × Int), (ps.foldl lo a).1 ≤ a.1 ∧ (ps.foldl lo a).2 ≤ a.2 ∧ ∀ p ∈ ps, (ps.foldl lo a).1 ≤ p.1 ∧ (ps.foldl lo a).2 ≤ p.2
  | [], a => by simp
  | q :: ps, a => by
    have ih := fold_lo ps (lo a q)
    have h1 : (lo a q).1 ≤ a.1 ∧ (lo a q).1 ≤ q.1 ∧ (lo a q).2 ≤ a.2 ∧ (lo a q).2 ≤ q.2 := by unfold lo; simp only; omega
    rw [List.foldl_cons]
    refine ⟨by omega, by omega, fun p hp => ?_⟩
    rcases List.mem_cons.1 hp with rfl | hp
    · omega
    · exact ih.2.2 p hp
theorem fold_hi : ∀ (ps : List (Int × Int)) (a : Int × Int), a.1 ≤ (ps.foldl hi a).1 ∧ a.2 ≤ (ps.foldl hi a).2 ∧ ∀ p ∈ ps, p.1 ≤ (ps.foldl hi a).1 ∧ p.2 ≤ (ps.foldl hi a).2
  | [], a => by simp
  | q :: ps, a => by
    have ih := fold_hi ps (hi a q)
    have h1 : a.1 ≤ (hi a q).1 ∧ q.1 ≤ (hi a q).1 ∧ a.2 ≤ (hi a q).2 ∧ q.2 ≤ (hi a q).2 := by unfold hi; simp only; omega
    rw [List.foldl_cons]
    refine ⟨by omega, by omega, fun p hp => ?_⟩
    rcases List.mem_cons.1 hp with rfl | hp
    · omega
    · exact ih.2.2 p hp
theorem box_in (ps : List (Int × Int)) {k : Nat} (hk : k < ps.length) : (boxLo ps).1 ≤ (ps.getD k (0, 0)).1 ∧ (boxLo ps).2 ≤ (ps.getD k (0, 0)).2 ∧ (ps.getD k (0, 0)).1 ≤ (boxHi ps).1 ∧ (ps.getD k (0, 0)).2 ≤ (boxHi ps).2 := by
  have hm : ps.getD k (0, 0) ∈ ps := by simp [List.getD, hk]
  have a := (fold_lo ps (ps.headD (0, 0))).2.2 _ hm
  have b := (fold_hi ps (ps.headD (0, 0))).2.2 _ hm
  exact ⟨a.1, a.2, b.1, b.2⟩
end Go.Proofs.Ytconoaphenahnaa
