/- Contracts of the the law FnTurns, walked over the translation. -/
import Derived.Test.YthhkmkhilnglkaaJB
import Derived.Test.YthhkmkhilnglkaaG
import Derived.Deep.RegionHeld3
import Derived.Deep.DeepCutAuto
import Derived.RegionTactic
import Derived.BigRegion
import Derived.WalkLawsBesides
import Derived.WalkSpells
import Derived.Lib.MinMax
import Derived.Outline
namespace Go.Proofs.Ythhkmkhilnglkaa
open Go.RowKit
attribute [local go_sem] ExtOf.cell ExtOf.frozen








theorem okP_bd {x z : Int} (h : okP x z = true) : (-1000 ≤ x ∧ x ≤ 1000) ∧ -1000 ≤ z ∧ z ≤ 1000 := by simp [okP, inB] at h; omega
set_option maxHeartbeats 3200000 in
theorem dir_opp {dx dy : Int} (h : ¬ (dx = 0 ∧ dy = 0)) (hx : -2000 ≤ dx ∧ dx ≤ 2000) (hy : -2000 ≤ dy ∧ dy ≤ 2000) : (dirZ (-dx) (-dy) + 4) % 8 = dirZ dx dy ∧ 0 ≤ dirZ (-dx) (-dy) ∧ dirZ (-dx) (-dy) ≤ 7 := by
  have ex : absW (-dx) = absW dx := by unfold absW wrap64; omega
  have ey : absW (-dy) = absW dy := by unfold absW wrap64; omega
  have hx0 : absW dx = max dx (-dx) := by unfold absW wrap64; omega
  have hy0 : absW dy = max dy (-dy) := by unfold absW wrap64; omega
  unfold dirZ
  rw [ex, ey, hx0, hy0]
  unfold dirT
  repeat' split
  all_goals omega
theorem dirC_swap {ax az bx bz : Int} (h : dirC ax az bx bz = 0) : dirC bx bz ax az = 0 ∧ (dirR bx bz ax az + 4) % 8 = dirR ax az bx bz ∧ 0 ≤ dirR bx bz ax az ∧ dirR bx bz ax az ≤ 7 := by
  have h0 := h
  unfold dirC at h
  split at h
  · rename_i ho
    obtain ⟨p1, p2⟩ := oks_two' ho
    split at h
    · omega
    · rename_i he
      have he : eqP ax az bx bz = false := Bool.eq_false_iff.2 he
      have hn := ne_of_eqP he
      have b1 := okP_bd p1
      have b2 := okP_bd p2
      have he2 : eqP bx bz ax az = false := by
        refine Bool.eq_false_iff.2 fun e => ?_
        have := eqP_iff.1 e
        exact hn ⟨this.1.symm, this.2.symm⟩
      have hc : dirC bx bz ax az = 0 := by simp [dirC, oks, p1, p2, he2]
      have := dir_opp (dx := bx - ax) (dy := bz - az) (by omega) (by omega) (by omega)
      rw [show -(bx - ax) = ax - bx by omega, show -(bz - az) = az - bz by omega] at this
      refine ⟨hc, ?_⟩
      unfold dirR
      rw [if_pos hc, if_pos h0]
      exact this
  · omega
theorem turnW_cyc {ax az bx bz x z : Int} (h1 : -1000 ≤ ax ∧ ax ≤ 1000) (h2 : -1000 ≤ az ∧ az ≤ 1000) (h3 : -1000 ≤ bx ∧ bx ≤ 1000) (h4 : -1000 ≤ bz ∧ bz ≤ 1000) (h5 : -1000 ≤ x ∧ x ≤ 1000) (h6 : -1000 ≤ z ∧ z ≤ 1000) :
    turnW bx bz x z ax az = turnW ax az bx bz x z := by
  rw [turnW_eq h1 h2 h3 h4 h5 h6, turnW_eq h3 h4 h5 h6 h1 h2]
  simp only [Int.sub_mul, Int.mul_sub]
  have a := Int.mul_comm x az
  have b := Int.mul_comm x bz
  have c := Int.mul_comm bx az
  have d := Int.mul_comm bx bz
  have e := Int.mul_comm z ax
  have f := Int.mul_comm z bx
  have g := Int.mul_comm bz ax
  have i := Int.mul_comm ax az
  omega
theorem turn_bd {ax az bx bz x z : Int} (h1 : -1000 ≤ ax ∧ ax ≤ 1000) (h2 : -1000 ≤ az ∧ az ≤ 1000) (h3 : -1000 ≤ bx ∧ bx ≤ 1000) (h4 : -1000 ≤ bz ∧ bz ≤ 1000) (h5 : -1000 ≤ x ∧ x ≤ 1000) (h6 : -1000 ≤ z ∧ z ≤ 1000) :
    -8000000 ≤ turnW ax az bx bz x z ∧ turnW ax az bx bz x z ≤ 8000000 := by
  rw [turnW_eq h1 h2 h3 h4 h5 h6]
  have m1 := mul_bd2 (show -2000 ≤ bx - ax ∧ bx - ax ≤ 2000 by omega) (show -2000 ≤ z - az ∧ z - az ≤ 2000 by omega)
  have m2 := mul_bd2 (show -2000 ≤ bz - az ∧ bz - az ≤ 2000 by omega) (show -2000 ≤ x - ax ∧ x - ax ≤ 2000 by omega)
  omega
theorem turnR_laws {ax az bx bz x z : Int} (h : okC [(ax, az), (bx, bz), (x, z)] = 0) :
    okC [(bx, bz), (ax, az), (x, z)] = 0 ∧ okC [(bx, bz), (x, z), (ax, az)] = 0 ∧ turnR bx bz ax az x z = -turnR ax az bx bz x z ∧ turnR bx bz x z ax az = turnR ax az bx bz x z ∧ -8000000 ≤ turnR ax az bx bz x z ∧ turnR ax az bx bz x z ≤ 8000000 := by
  unfold okC at h
  split at h
  · rename_i ho
    have hh : okP ax az = true ∧ okP bx bz = true ∧ okP x z = true := by simpa [oks] using ho
    obtain ⟨p1, p2, p3⟩ := hh
    have b1 := okP_bd p1
    have b2 := okP_bd p2
    have b3 := okP_bd p3
    have o2 : oks [(bx, bz), (ax, az), (x, z)] = true := by simp [oks, p1, p2, p3]
    have o3 : oks [(bx, bz), (x, z), (ax, az)] = true := by simp [oks, p1, p2, p3]
    unfold okC turnR
    rw [if_pos ho, if_pos o2, if_pos o3, if_pos o2, if_pos o3]
    exact ⟨rfl, rfl, turnW_swap b1.1 b1.2 b2.1 b2.2 b3.1 b3.2, turnW_cyc b1.1 b1.2 b2.1 b2.2 b3.1 b3.2, turn_bd b1.1 b1.2 b2.1 b2.2 b3.1 b3.2⟩
  · omega
theorem onW_swap {ax az bx bz x z : Int} (h1 : (-1000 ≤ ax ∧ ax ≤ 1000) ∧ -1000 ≤ az ∧ az ≤ 1000) (h2 : (-1000 ≤ bx ∧ bx ≤ 1000) ∧ -1000 ≤ bz ∧ bz ≤ 1000) (h3 : (-1000 ≤ x ∧ x ≤ 1000) ∧ -1000 ≤ z ∧ z ≤ 1000) : onW bx bz ax az x z = onW ax az bx bz x z := by
  unfold onW
  rw [turnW_swap h1.1 h1.2 h2.1 h2.2 h3.1 h3.2, show min bx ax = min ax bx by omega, show max bx ax = max ax bx by omega, show min bz az = min az bz by omega, show max bz az = max az bz by omega,
    show (-turnW ax az bx bz x z == 0) = (turnW ax az bx bz x z == 0) by rw [Bool.eq_iff_iff, beq_iff_eq, beq_iff_eq]; omega]
theorem sgn_neg (x : Int) : sgn (-x) = -sgn x := by unfold sgn; omega
theorem cross_swap {ax az bx bz cx cz dx dz : Int} (h : crossC ax az bx bz cx cz dx dz = 0) : crossC cx cz dx dz bx bz ax az = 0 ∧ crossR cx cz dx dz bx bz ax az = crossR ax az bx bz cx cz dx dz := by
  have h0 := h
  unfold crossC at h
  split at h
  · rename_i ho
    have hh : okP ax az = true ∧ okP bx bz = true ∧ okP cx cz = true ∧ okP dx dz = true := by simpa [oks] using ho
    obtain ⟨p1, p2, p3, p4⟩ := hh
    split at h
    · omega
    · rename_i he
      have he : (eqP ax az bx bz || eqP cx cz dx dz) = false := Bool.eq_false_iff.2 he
      have hh := Bool.or_eq_false_iff.1 he
      have hn := ne_of_eqP hh.1
      have he2 : eqP bx bz ax az = false := by
        refine Bool.eq_false_iff.2 fun e => ?_
        have := eqP_iff.1 e
        exact hn ⟨this.1.symm, this.2.symm⟩
      have hc : crossC cx cz dx dz bx bz ax az = 0 := by simp [crossC, oks, p1, p2, p3, p4, he2, hh.2]
      refine ⟨hc, ?_⟩
      have b1 := okP_bd p1
      have b2 := okP_bd p2
      have b3 := okP_bd p3
      have b4 := okP_bd p4
      unfold crossR
      rw [if_pos hc, if_pos h0]
      unfold crossW
      rw [onW_swap b1 b2 b3, onW_swap b1 b2 b4, turnW_swap b1.1 b1.2 b2.1 b2.2 b3.1 b3.2, turnW_swap b1.1 b1.2 b2.1 b2.2 b4.1 b4.2, sgn_neg, sgn_neg, Int.neg_mul_neg,
        Int.mul_comm (sgn (turnW cx cz dx dz bx bz))]
      generalize onW ax az bx bz cx cz = o1
      generalize onW ax az bx bz dx dz = o2
      generalize onW cx cz dx dz ax az = o3
      generalize onW cx cz dx dz bx bz = o4
      generalize decide (sgn (turnW cx cz dx dz ax az) * sgn (turnW cx cz dx dz bx bz) < 0) = q1
      generalize decide (sgn (turnW ax az bx bz cx cz) * sgn (turnW ax az bx bz dx dz) < 0) = q2
      cases o1 <;> cases o2 <;> cases o3 <;> cases o4 <;> cases q1 <;> cases q2 <;> rfl
  · omega
theorem l_big (A : Option Addr) (c : Nat) (n : Nat) (w : World) : Calls Try.prog 27 #[.slice A n c] w fun e w' => e = .returned (.bool (decide (4096 < n))) ∧ w = w' := by
  go_enter Try.func27, Try.ntmps27
  go_wp2
  go_ret
  exact ⟨ret_bool (by simp; try omega), rfl⟩
end Go.Proofs.Ythhkmkhilnglkaa
