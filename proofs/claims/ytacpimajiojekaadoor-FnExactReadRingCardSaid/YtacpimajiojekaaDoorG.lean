/- Contracts of the rings: the side of a point, walked over the translation. -/
import Derived.Test.YtacpimajiojekaaDoorX
import Derived.Test.YtacpimajiojekaaDoorW
import Derived.Deep.DeepCutAuto
import Derived.RegionTactic
import Derived.BigRegion
import Derived.WalkLawsBesides
import Derived.WalkSpells
import Derived.Lib.MinMax
import Derived.Outline
namespace Go.Proofs.YtacpimajiojekaaDoor
open Go.RowKit
attribute [local go_sem] ExtOf.cell ExtOf.frozen







theorem mul_bd2 {x y : Int} (hx : -2000 ≤ x ∧ x ≤ 2000) (hy : -2000 ≤ y ∧ y ≤ 2000) : -4000000 ≤ x * y ∧ x * y ≤ 4000000 := by
  have a := Int.mul_nonneg (show 0 ≤ 2000 - x by omega) (show 0 ≤ 2000 - y by omega)
  have b := Int.mul_nonneg (show 0 ≤ 2000 + x by omega) (show 0 ≤ 2000 + y by omega)
  have c := Int.mul_nonneg (show 0 ≤ 2000 - x by omega) (show 0 ≤ 2000 + y by omega)
  have d := Int.mul_nonneg (show 0 ≤ 2000 + x by omega) (show 0 ≤ 2000 - y by omega)
  simp only [Int.sub_mul, Int.mul_sub, Int.add_mul, Int.mul_add] at a b c d
  omega
theorem turnW_eq {ax az bx bz x z : Int} (h1 : -1000 ≤ ax ∧ ax ≤ 1000) (h2 : -1000 ≤ az ∧ az ≤ 1000) (h3 : -1000 ≤ bx ∧ bx ≤ 1000) (h4 : -1000 ≤ bz ∧ bz ≤ 1000) (h5 : -1000 ≤ x ∧ x ≤ 1000) (h6 : -1000 ≤ z ∧ z ≤ 1000) :
    turnW ax az bx bz x z = (bx - ax) * (z - az) - (bz - az) * (x - ax) := by
  have e : ∀ v : Int, -100000000 ≤ v → v ≤ 100000000 → wrap64 v = v := by intro v _ _; unfold wrap64; omega
  have m1 := mul_bd2 (show -2000 ≤ bx - ax ∧ bx - ax ≤ 2000 by omega) (show -2000 ≤ z - az ∧ z - az ≤ 2000 by omega)
  have m2 := mul_bd2 (show -2000 ≤ bz - az ∧ bz - az ≤ 2000 by omega) (show -2000 ≤ x - ax ∧ x - ax ≤ 2000 by omega)
  unfold turnW
  rw [e (bx - ax) (by omega) (by omega), e (z - az) (by omega) (by omega), e (bz - az) (by omega) (by omega), e (x - ax) (by omega) (by omega), e ((bx - ax) * (z - az)) (by omega) (by omega), e ((bz - az) * (x - ax)) (by omega) (by omega), e ((bx - ax) * (z - az) - (bz - az) * (x - ax)) (by omega) (by omega)]
theorem turnW_swap {ax az bx bz x z : Int} (h1 : -1000 ≤ ax ∧ ax ≤ 1000) (h2 : -1000 ≤ az ∧ az ≤ 1000) (h3 : -1000 ≤ bx ∧ bx ≤ 1000) (h4 : -1000 ≤ bz ∧ bz ≤ 1000) (h5 : -1000 ≤ x ∧ x ≤ 1000) (h6 : -1000 ≤ z ∧ z ≤ 1000) :
    turnW bx bz ax az x z = - turnW ax az bx bz x z := by
  rw [turnW_eq h1 h2 h3 h4 h5 h6, turnW_eq h3 h4 h1 h2 h5 h6]
  simp only [Int.sub_mul, Int.mul_sub]
  have a := Int.mul_comm ax bz
  have b := Int.mul_comm az bx
  have c := Int.mul_comm ax az
  have d := Int.mul_comm bx bz
  omega
theorem betw {X Y D t : Int} (hD : 0 < D) (ht : 0 ≤ t) (htD : t ≤ D) (e : X * D = Y * t) : (0 ≤ X ∧ X ≤ Y) ∨ (Y ≤ X ∧ X ≤ 0) := by
  by_cases hY : 0 ≤ Y
  · have p1 := Int.mul_nonneg hY ht
    have p2 := Int.mul_nonneg hY (show 0 ≤ D - t by omega)
    rw [Int.mul_sub] at p2
    left
    constructor
    · refine Int.not_lt.1 fun hn => ?_
      have := Int.mul_pos (show 0 < -X by omega) hD
      rw [Int.neg_mul] at this
      omega
    · refine Int.not_lt.1 fun hn => ?_
      have := Int.mul_pos (show 0 < X - Y by omega) hD
      rw [Int.sub_mul] at this
      omega
  · have p1 := Int.mul_nonneg (show 0 ≤ -Y by omega) ht
    have p2 := Int.mul_nonneg (show 0 ≤ -Y by omega) (show 0 ≤ D - t by omega)
    rw [Int.neg_mul] at p1
    rw [Int.mul_sub, Int.neg_mul, Int.neg_mul] at p2
    right
    constructor
    · refine Int.not_lt.1 fun hn => ?_
      have := Int.mul_pos (show 0 < Y - X by omega) hD
      rw [Int.sub_mul] at this
      omega
    · refine Int.not_lt.1 fun hn => ?_
      have := Int.mul_pos (show 0 < X by omega) hD
      omega
/-- straight with an edge that is not level, and between its ends' heights: on it -/
theorem on_of_straight {ax az bx bz x z : Int} (h1 : -1000 ≤ ax ∧ ax ≤ 1000) (h2 : -1000 ≤ az ∧ az ≤ 1000) (h3 : -1000 ≤ bx ∧ bx ≤ 1000) (h4 : -1000 ≤ bz ∧ bz ≤ 1000) (h5 : -1000 ≤ x ∧ x ≤ 1000) (h6 : -1000 ≤ z ∧ z ≤ 1000)
    (ht : turnW ax az bx bz x z = 0) (hz : bz < az ∧ bz ≤ z ∧ z ≤ az) : onW ax az bx bz x z = true := by
  have e := turnW_eq h1 h2 h3 h4 h5 h6
  rw [ht] at e
  have e2 : (x - ax) * (az - bz) = (bx - ax) * (az - z) := by
    have q1 : (bz - az) * (x - ax) = -((x - ax) * (az - bz)) := by rw [Int.mul_comm, ← Int.mul_neg]; congr 1; omega
    have q2 : (bx - ax) * (z - az) = -((bx - ax) * (az - z)) := by rw [← Int.mul_neg]; congr 1; omega
    omega
  have := betw (show 0 < az - bz by omega) (show 0 ≤ az - z by omega) (show az - z ≤ az - bz by omega) e2
  simp only [onW, inB, ht]
  simp
  omega
theorem mul_bd4 {x y : Int} (hx : -4000 ≤ x ∧ x ≤ 4000) (hy : -4000 ≤ y ∧ y ≤ 4000) : -16000000 ≤ x * y ∧ x * y ≤ 16000000 := by
  have a := Int.mul_nonneg (show 0 ≤ 4000 - x by omega) (show 0 ≤ 4000 - y by omega)
  have b := Int.mul_nonneg (show 0 ≤ 4000 + x by omega) (show 0 ≤ 4000 + y by omega)
  have c := Int.mul_nonneg (show 0 ≤ 4000 - x by omega) (show 0 ≤ 4000 + y by omega)
  have d := Int.mul_nonneg (show 0 ≤ 4000 + x by omega) (show 0 ≤ 4000 - y by omega)
  simp only [Int.sub_mul, Int.mul_sub, Int.add_mul, Int.mul_add] at a b c d
  omega
theorem turnW_eq2 {ax az bx bz x z : Int} (h1 : -2000 ≤ ax ∧ ax ≤ 2000) (h2 : -2000 ≤ az ∧ az ≤ 2000) (h3 : -2000 ≤ bx ∧ bx ≤ 2000) (h4 : -2000 ≤ bz ∧ bz ≤ 2000) (h5 : -2000 ≤ x ∧ x ≤ 2000) (h6 : -2000 ≤ z ∧ z ≤ 2000) :
    turnW ax az bx bz x z = (bx - ax) * (z - az) - (bz - az) * (x - ax) := by
  have e : ∀ v : Int, -200000000 ≤ v → v ≤ 200000000 → wrap64 v = v := by intro v _ _; unfold wrap64; omega
  have m1 := mul_bd4 (show -4000 ≤ bx - ax ∧ bx - ax ≤ 4000 by omega) (show -4000 ≤ z - az ∧ z - az ≤ 4000 by omega)
  have m2 := mul_bd4 (show -4000 ≤ bz - az ∧ bz - az ≤ 4000 by omega) (show -4000 ≤ x - ax ∧ x - ax ≤ 4000 by omega)
  unfold turnW
  rw [e (bx - ax) (by omega) (by omega), e (z - az) (by omega) (by omega), e (bz - az) (by omega) (by omega), e (x - ax) (by omega) (by omega), e ((bx - ax) * (z - az)) (by omega) (by omega), e ((bz - az) * (x - ax)) (by omega) (by omega), e ((bx - ax) * (z - az) - (bz - az) * (x - ax)) (by omega) (by omega)]
theorem turnW_swap2 {ax az bx bz x z : Int} (h1 : -2000 ≤ ax ∧ ax ≤ 2000) (h2 : -2000 ≤ az ∧ az ≤ 2000) (h3 : -2000 ≤ bx ∧ bx ≤ 2000) (h4 : -2000 ≤ bz ∧ bz ≤ 2000) (h5 : -2000 ≤ x ∧ x ≤ 2000) (h6 : -2000 ≤ z ∧ z ≤ 2000) :
    turnW bx bz ax az x z = - turnW ax az bx bz x z := by
  rw [turnW_eq2 h1 h2 h3 h4 h5 h6, turnW_eq2 h3 h4 h1 h2 h5 h6]
  simp only [Int.sub_mul, Int.mul_sub]
  have a := Int.mul_comm ax bz
  have b := Int.mul_comm az bx
  have c := Int.mul_comm ax az
  have d := Int.mul_comm bx bz
  omega
/-- straight with an edge that is not level, and between its ends' heights: on it -/
theorem on_of_straight2 {ax az bx bz x z : Int} (h1 : -2000 ≤ ax ∧ ax ≤ 2000) (h2 : -2000 ≤ az ∧ az ≤ 2000) (h3 : -2000 ≤ bx ∧ bx ≤ 2000) (h4 : -2000 ≤ bz ∧ bz ≤ 2000) (h5 : -2000 ≤ x ∧ x ≤ 2000) (h6 : -2000 ≤ z ∧ z ≤ 2000)
    (ht : turnW ax az bx bz x z = 0) (hz : bz < az ∧ bz ≤ z ∧ z ≤ az) : onW ax az bx bz x z = true := by
  have e := turnW_eq2 h1 h2 h3 h4 h5 h6
  rw [ht] at e
  have e2 : (x - ax) * (az - bz) = (bx - ax) * (az - z) := by
    have q1 : (bz - az) * (x - ax) = -((x - ax) * (az - bz)) := by rw [Int.mul_comm, ← Int.mul_neg]; congr 1; omega
    have q2 : (bx - ax) * (z - az) = -((bx - ax) * (az - z)) := by rw [← Int.mul_neg]; congr 1; omega
    omega
  have := betw (show 0 < az - bz by omega) (show 0 ≤ az - z by omega) (show az - z ≤ az - bz by omega) e2
  simp only [onW, inB, ht]
  simp
  omega
/-- all corners within twice the bounds -/
def Bd2 (ps : List (Int × Int)) : Prop := ∀ k : Int, (-2000 ≤ ptx ps k ∧ ptx ps k ≤ 2000) ∧ (-2000 ≤ ptz ps k ∧ ptz ps k ≤ 2000)
theorem Bd2.of {ps : List (Int × Int)} (h : oks ps = true) : Bd2 ps := fun k => by
  have := ptx_bd h k
  have := ptz_bd h k
  omega
/-- does the edge k cross the ray from the point? -/
def flipE (ps : List (Int × Int)) (x z : Int) (k : Int) : Bool := (decide (z < ptz ps k) != decide (z < ptz ps (k + 1))) && (decide (0 < turnW (ptx ps k) (ptz ps k) (ptx ps (k + 1)) (ptz ps (k + 1)) x z) == decide (ptz ps k < ptz ps (k + 1)))
def onE (ps : List (Int × Int)) (x z : Int) (k : Int) : Bool := onW (ptx ps k) (ptz ps k) (ptx ps (k + 1)) (ptz ps (k + 1)) x z
def sideTo (ps : List (Int × Int)) (x z : Int) : Nat → Int
  | 0 => -1
  | k + 1 => if flipE ps x z k = true then -sideTo ps x z k else sideTo ps x z k
def OffTo (ps : List (Int × Int)) (x z : Int) (n : Nat) : Prop := ∀ j : Nat, j < n → onE ps x z j = false
theorem OffTo.succ {ps : List (Int × Int)} {x z : Int} {n : Nat} (h : OffTo ps x z n) (h' : onE ps x z n = false) : OffTo ps x z (n + 1) := by
  intro j hj
  by_cases e : j = n
  · subst e; exact h'
  · exact h j (by omega)
def sideZ (ps : List (Int × Int)) (x z : Int) : Int := if (List.range ps.length).any (fun k => onE ps x z k) = true then 0 else sideTo ps x z ps.length
theorem sideZ_on {ps : List (Int × Int)} {x z : Int} {k : Nat} (hk : k < ps.length) (h : onE ps x z k = true) : 0 = sideZ ps x z := by
  unfold sideZ
  rw [if_pos (List.any_eq_true.2 ⟨k, List.mem_range.2 hk, h⟩)]
theorem sideZ_off {ps : List (Int × Int)} {x z : Int} (h : OffTo ps x z ps.length) : sideTo ps x z ps.length = sideZ ps x z := by
  unfold sideZ
  rw [if_neg]
  intro hc
  obtain ⟨k, hk, e⟩ := List.any_eq_true.1 hc
  have := h k (List.mem_range.1 hk)
  rw [this] at e
  cases e
theorem sideTo_bd (ps : List (Int × Int)) (x z : Int) : ∀ k : Nat, sideTo ps x z k = 1 ∨ sideTo ps x z k = -1
  | 0 => by simp [sideTo]
  | k + 1 => by
    have := sideTo_bd ps x z k
    unfold sideTo
    split <;> omega
theorem sideTo_yes {ps : List (Int × Int)} {x z : Int} {k : Nat} (h : flipE ps x z k = true) : -sideTo ps x z k = sideTo ps x z (k + 1) := by
  conv => rhs; unfold sideTo
  rw [if_pos h]
theorem sideTo_no {ps : List (Int × Int)} {x z : Int} {k : Nat} (h : flipE ps x z k = false) : sideTo ps x z k = sideTo ps x z (k + 1) := by
  conv => rhs; unfold sideTo
  rw [if_neg (by simp [h])]

theorem flipE_swap {ps : List (Int × Int)} {x z : Int} {k : Int} (ho : Bd2 ps) (h5 : -2000 ≤ x ∧ x ≤ 2000) (h6 : -2000 ≤ z ∧ z ≤ 2000) (hn : onE ps x z k = false) (hs : ptz ps (k + 1) < ptz ps k) :
    flipE ps x z k = (decide (ptz ps (k + 1) ≤ z) && decide (z < ptz ps k) && decide (0 < turnW (ptx ps (k + 1)) (ptz ps (k + 1)) (ptx ps k) (ptz ps k) x z)) := by
  have m0 := (ho k).1
  have m1 := (ho (k + 1)).1
  have m2 := (ho k).2
  have m3 := (ho (k + 1)).2
  rw [turnW_swap2 m0 m2 m1 m3 h5 h6]
  unfold flipE
  unfold onE at hn
  have h0 : turnW (ptx ps k) (ptz ps k) (ptx ps (k + 1)) (ptz ps (k + 1)) x z = 0 → ¬ (ptz ps (k + 1) ≤ z ∧ z < ptz ps k) := by
    intro e hc
    have := on_of_straight2 m0 m2 m1 m3 h5 h6 e ⟨hs, hc.1, by omega⟩
    rw [this] at hn
    cases hn
  generalize turnW (ptx ps k) (ptz ps k) (ptx ps (k + 1)) (ptz ps (k + 1)) x z = T at *
  clear hn m0 m1 m2 m3 h5 h6
  by_cases a1 : z < ptz ps k
  · by_cases a2 : z < ptz ps (k + 1)
    · simp [a1, a2, show ¬ ptz ps (k + 1) ≤ z by omega]
    · have a3 : ¬ ptz ps k < ptz ps (k + 1) := by omega
      have a4 : ptz ps (k + 1) ≤ z := by omega
      have a5 : (0 < T) ↔ ¬ (0 < -T) := by
        have := h0
        constructor
        · omega
        · intro q; have := h0; by_cases e : T = 0
          · exact absurd ⟨a4, a1⟩ (this e)
          · omega
      by_cases a6 : 0 < T
      · have a7 := a5.1 a6
        simp [a1, a2, a3, a4, a6]; omega
      · have a7 : 0 < -T := Decidable.not_not.1 fun q => a6 (a5.2 q)
        simp [a1, a2, a3, a4, a6]; omega
  · have a2 : ¬ z < ptz ps (k + 1) := by omega
    simp [a1, a2]
theorem flipE_same {ps : List (Int × Int)} {x z : Int} {k : Int} (hs : ¬ ptz ps (k + 1) < ptz ps k) :
    flipE ps x z k = (decide (ptz ps k ≤ z) && decide (z < ptz ps (k + 1)) && decide (0 < turnW (ptx ps k) (ptz ps k) (ptx ps (k + 1)) (ptz ps (k + 1)) x z)) := by
  unfold flipE
  generalize turnW (ptx ps k) (ptz ps k) (ptx ps (k + 1)) (ptz ps (k + 1)) x z = T
  by_cases a1 : z < ptz ps k
  · have a2 : z < ptz ps (k + 1) := by omega
    simp [a1, a2, show ¬ ptz ps k ≤ z by omega]
  · by_cases a2 : z < ptz ps (k + 1)
    · have a3 : ptz ps k < ptz ps (k + 1) := by omega
      by_cases a6 : 0 < T
      · simp [a1, a2, a3, a6]; omega
      · simp [a1, a2, a3, a6]
    · simp [a1, a2]


end Go.Proofs.YtacpimajiojekaaDoor
