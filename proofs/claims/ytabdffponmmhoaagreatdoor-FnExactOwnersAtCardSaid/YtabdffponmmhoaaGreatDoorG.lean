/- Contracts of the rings: the side of a point, walked over the translation. -/
import Derived.Test.YtabdffponmmhoaaGreatDoorG0
import Derived.Deep.DeepCutAuto
import Derived.RegionTactic
import Derived.BigRegion
import Derived.WalkLawsBesides
import Derived.WalkSpells
import Derived.Lib.MinMax
import Derived.Outline
namespace Go.Proofs.YtabdffponmmhoaaGreatDoor
open Go.RowKit
attribute [local go_sem] ExtOf.cell ExtOf.frozen







theorem mul_bd2 {x y : Int} (hx : -2000 ≤ x ∧ x ≤ 2000) (hy : -2000 ≤ y ∧ y ≤ 2000) : -4000000 ≤ x * y ∧ x * y ≤ 4000000 := by
  have a := Int.mul_nonneg (show 0 ≤ 2000 - x by omega) (show 0 ≤ 2000 - y by omega)
  have b := Int.mul_nonneg (show 0 ≤ 2000 + x by omega) (show 0 ≤ 2000 + y by omega)
  have c := Int.mul_nonneg (show 0 ≤ 2000 - x by omega) (show 0 ≤ 2000 + y by omega)
  have d := Int.mul_nonneg (show 0 ≤ 2000 + x by omega) (show 0 ≤ 2000 - y by omega)
  simp only [Int.sub_mul, Int.mul_sub, Int.add_mul, Int.mul_add] at a b c d
  omega
theorem turnW_eq {ax az bx bz x z : Int} (h1 : -1000 ≤ ax ∧ ax ≤ 1000) (h2 : -1000 ≤ az ∧ az ≤ 1000) (h3 : -1000 ≤ bx ∧ bx ≤ 1000) (h4 : -1000 ≤ bz ∧ bz ≤ 1000) (h5 : -1000 ≤ x ∧ x ≤ 1000) (h6 : -1000 ≤ z ∧ z ≤ 1000) :
    turnW ax az bx bz x z = (bx - ax) * (z - az) - (bz - az) * (x - ax) := by
  have e : ∀ v : Int, -100000000 ≤ v → v ≤ 100000000 → wrap64 v = v := by intro v _ _; unfold wrap64; omega
  have m1 := mul_bd2 (show -2000 ≤ bx - ax ∧ bx - ax ≤ 2000 by omega) (show -2000 ≤ z - az ∧ z - az ≤ 2000 by omega)
  have m2 := mul_bd2 (show -2000 ≤ bz - az ∧ bz - az ≤ 2000 by omega) (show -2000 ≤ x - ax ∧ x - ax ≤ 2000 by omega)
  unfold turnW
  rw [e (bx - ax) (by omega) (by omega), e (z - az) (by omega) (by omega), e (bz - az) (by omega) (by omega), e (x - ax) (by omega) (by omega), e ((bx - ax) * (z - az)) (by omega) (by omega), e ((bz - az) * (x - ax)) (by omega) (by omega), e ((bx - ax) * (z - az) - (bz - az) * (x - ax)) (by omega) (by omega)]
theorem turnW_swap {ax az bx bz x z : Int} (h1 : -1000 ≤ ax ∧ ax ≤ 1000) (h2 : -1000 ≤ az ∧ az ≤ 1000) (h3 : -1000 ≤ bx ∧ bx ≤ 1000) (h4 : -1000 ≤ bz ∧ bz ≤ 1000) (h5 : -1000 ≤ x ∧ x ≤ 1000) (h6 : -1000 ≤ z ∧ z ≤ 1000) :
    turnW bx bz ax az x z = - turnW ax az bx bz x z := by
  rw [turnW_eq h1 h2 h3 h4 h5 h6, turnW_eq h3 h4 h1 h2 h5 h6]
  simp only [Int.sub_mul, Int.mul_sub]
  have a := Int.mul_comm ax bz
  have b := Int.mul_comm az bx
  have c := Int.mul_comm ax az
  have d := Int.mul_comm bx bz
  omega
theorem betw {X Y D t : Int} (hD : 0 < D) (ht : 0 ≤ t) (htD : t ≤ D) (e : X * D = Y * t) : (0 ≤ X ∧ X ≤ Y) ∨ (Y ≤ X ∧ X ≤ 0) := by
  by_cases hY : 0 ≤ Y
  · have p1 := Int.mul_nonneg hY ht
    have p2 := Int.mul_nonneg hY (show 0 ≤ D - t by omega)
    rw [Int.mul_sub] at p2
    left
    constructor
    · refine Int.not_lt.1 fun hn => ?_
      have := Int.mul_pos (show 0 < -X by omega) hD
      rw [Int.neg_mul] at this
      omega
    · refine Int.not_lt.1 fun hn => ?_
      have := Int.mul_pos (show 0 < X - Y by omega) hD
      rw [Int.sub_mul] at this
      omega
  · have p1 := Int.mul_nonneg (show 0 ≤ -Y by omega) ht
    have p2 := Int.mul_nonneg (show 0 ≤ -Y by omega) (show 0 ≤ D - t by omega)
    rw [Int.neg_mul] at p1
    rw [Int.mul_sub, Int.neg_mul, Int.neg_mul] at p2
    right
    constructor
    · refine Int.not_lt.1 fun hn => ?_
      have := Int.mul_pos (show 0 < Y - X by omega) hD
      rw [Int.sub_mul] at this
      omega
    · refine Int.not_lt.1 fun hn => ?_
      have := Int.mul_pos (show 0 < X by omega) hD
      omega
/-- straight with an edge that is not level, and between its ends' heights: on it -/
theorem on_of_straight {ax az bx bz x z : Int} (h1 : -1000 ≤ ax ∧ ax ≤ 1000) (h2 : -1000 ≤ az ∧ az ≤ 1000) (h3 : -1000 ≤ bx ∧ bx ≤ 1000) (h4 : -1000 ≤ bz ∧ bz ≤ 1000) (h5 : -1000 ≤ x ∧ x ≤ 1000) (h6 : -1000 ≤ z ∧ z ≤ 1000)
    (ht : turnW ax az bx bz x z = 0) (hz : bz < az ∧ bz ≤ z ∧ z ≤ az) : onW ax az bx bz x z = true := by
  have e := turnW_eq h1 h2 h3 h4 h5 h6
  rw [ht] at e
  have e2 : (x - ax) * (az - bz) = (bx - ax) * (az - z) := by
    have q1 : (bz - az) * (x - ax) = -((x - ax) * (az - bz)) := by rw [Int.mul_comm, ← Int.mul_neg]; congr 1; omega
    have q2 : (bx - ax) * (z - az) = -((bx - ax) * (az - z)) := by rw [← Int.mul_neg]; congr 1; omega
    omega
  have := betw (show 0 < az - bz by omega) (show 0 ≤ az - z by omega) (show az - z ≤ az - bz by omega) e2
  simp only [onW, inB, ht]
  simp
  omega
theorem mul_bd4 {x y : Int} (hx : -4000 ≤ x ∧ x ≤ 4000) (hy : -4000 ≤ y ∧ y ≤ 4000) : -16000000 ≤ x * y ∧ x * y ≤ 16000000 := by
  have a := Int.mul_nonneg (show 0 ≤ 4000 - x by omega) (show 0 ≤ 4000 - y by omega)
  have b := Int.mul_nonneg (show 0 ≤ 4000 + x by omega) (show 0 ≤ 4000 + y by omega)
  have c := Int.mul_nonneg (show 0 ≤ 4000 - x by omega) (show 0 ≤ 4000 + y by omega)
  have d := Int.mul_nonneg (show 0 ≤ 4000 + x by omega) (show 0 ≤ 4000 - y by omega)
  simp only [Int.sub_mul, Int.mul_sub, Int.add_mul, Int.mul_add] at a b c d
  omega
theorem turnW_eq2 {ax az bx bz x z : Int} (h1 : -2000 ≤ ax ∧ ax ≤ 2000) (h2 : -2000 ≤ az ∧ az ≤ 2000) (h3 : -2000 ≤ bx ∧ bx ≤ 2000) (h4 : -2000 ≤ bz ∧ bz ≤ 2000) (h5 : -2000 ≤ x ∧ x ≤ 2000) (h6 : -2000 ≤ z ∧ z ≤ 2000) :
    turnW ax az bx bz x z = (bx - ax) * (z - az) - (bz - az) * (x - ax) := by
  have e : ∀ v : Int, -200000000 ≤ v → v ≤ 200000000 → wrap64 v = v := by intro v _ _; unfold wrap64; omega
  have m1 := mul_bd4 (show -4000 ≤ bx - ax ∧ bx - ax ≤ 4000 by omega) (show -4000 ≤ z - az ∧ z - az ≤ 4000 by omega)
  have m2 := mul_bd4 (show -4000 ≤ bz - az ∧ bz - az ≤ 4000 by omega) (show -4000 ≤ x - ax ∧ x - ax ≤ 4000 by omega)
  unfold turnW
  rw [e (bx - ax) (by omega) (by omega), e (z - az) (by omega) (by omega), e (bz - az) (by omega) (by omega), e (x - ax) (by omega) (by omega), e ((bx - ax) * (z - az)) (by omega) (by omega), e ((bz - az) * (x - ax)) (by omega) (by omega), e ((bx - ax) * (z - az) - (bz - az) * (x - ax)) (by omega) (by omega)]
theorem turnW_swap2 {ax az bx bz x z : Int} (h1 : -2000 ≤ ax ∧ ax ≤ 2000) (h2 : -2000 ≤ az ∧ az ≤ 2000) (h3 : -2000 ≤ bx ∧ bx ≤ 2000) (h4 : -2000 ≤ bz ∧ bz ≤ 2000) (h5 : -2000 ≤ x ∧ x ≤ 2000) (h6 : -2000 ≤ z ∧ z ≤ 2000) :
    turnW bx bz ax az x z = - turnW ax az bx bz x z := by
  rw [turnW_eq2 h1 h2 h3 h4 h5 h6, turnW_eq2 h3 h4 h1 h2 h5 h6]
  simp only [Int.sub_mul, Int.mul_sub]
  have a := Int.mul_comm ax bz
  have b := Int.mul_comm az bx
  have c := Int.mul_comm ax az
  have d := Int.mul_comm bx bz
  omega
/-- straight with an edge that is not level, and between its ends' heights: on it -/
theorem on_of_straight2 {ax az bx bz x z : Int} (h1 : -2000 ≤ ax ∧ ax ≤ 2000) (h2 : -2000 ≤ az ∧ az ≤ 2000) (h3 : -2000 ≤ bx ∧ bx ≤ 2000) (h4 : -2000 ≤ bz ∧ bz ≤ 2000) (h5 : -2000 ≤ x ∧ x ≤ 2000) (h6 : -2000 ≤ z ∧ z ≤ 2000)
    (ht : turnW ax az bx bz x z = 0) (hz : bz < az ∧ bz ≤ z ∧ z ≤ az) : onW ax az bx bz x z = true := by
  have e := turnW_eq2 h1 h2 h3 h4 h5 h6
  rw [ht] at e
  have e2 : (x - ax) * (az - bz) = (bx - ax) * (az - z) := by
    have q1 : (bz - az) * (x - ax) = -((x - ax) * (az - bz)) := by rw [Int.mul_comm, ← Int.mul_neg]; congr 1; omega
    have q2 : (bx - ax) * (z - az) = -((bx - ax) * (az - z)) := by rw [← Int.mul_neg]; congr 1; omega
    omega
  have := betw (show 0 < az - bz by omega) (show 0 ≤ az - z by omega) (show az - z ≤ az - bz by omega) e2
  simp only [onW, inB, ht]
  simp
  omega
/-- all corners within twice the bounds -/
def Bd2 (ps : List (Int × Int)) : Prop := ∀ k : Int, (-2000 ≤ ptx ps k ∧ ptx ps k ≤ 2000) ∧ (-2000 ≤ ptz ps k ∧ ptz ps k ≤ 2000)
theorem Bd2.of {ps : List (Int × Int)} (h : oks ps = true) : Bd2 ps := fun k => by
  have := ptx_bd h k
  have := ptz_bd h k
  omega
/-- does the edge k cross the ray from the point? -/
def flipE (ps : List (Int × Int)) (x z : Int) (k : Int) : Bool := (decide (z < ptz ps k) != decide (z < ptz ps (k + 1))) && (decide (0 < turnW (ptx ps k) (ptz ps k) (ptx ps (k + 1)) (ptz ps (k + 1)) x z) == decide (ptz ps k < ptz ps (k + 1)))
def onE (ps : List (Int × Int)) (x z : Int) (k : Int) : Bool := onW (ptx ps k) (ptz ps k) (ptx ps (k + 1)) (ptz ps (k + 1)) x z
def sideTo (ps : List (Int × Int)) (x z : Int) : Nat → Int
  | 0 => -1
  | k + 1 => if flipE ps x z k = true then -sideTo ps x z k else sideTo ps x z k
def OffTo (ps : List (Int × Int)) (x z : Int) (n : Nat) : Prop := ∀ j : Nat, j < n → onE ps x z j = false
theorem OffTo.succ {ps : List (Int × Int)} {x z : Int} {n : Nat} (h : OffTo ps x z n) (h' : onE ps x z n = false) : OffTo ps x z (n + 1) := by
  intro j hj
  by_cases e : j = n
  · subst e; exact h'
  · exact h j (by omega)
def sideZ (ps : List (Int × Int)) (x z : Int) : Int := if (List.range ps.length).any (fun k => onE ps x z k) = true then 0 else sideTo ps x z ps.length
theorem sideZ_on {ps : List (Int × Int)} {x z : Int} {k : Nat} (hk : k < ps.length) (h : onE ps x z k = true) : 0 = sideZ ps x z := by
  unfold sideZ
  rw [if_pos (List.any_eq_true.2 ⟨k, List.mem_range.2 hk, h⟩)]
theorem sideZ_off {ps : List (Int × Int)} {x z : Int} (h : OffTo ps x z ps.length) : sideTo ps x z ps.length = sideZ ps x z := by
  unfold sideZ
  rw [if_neg]
  intro hc
  obtain ⟨k, hk, e⟩ := List.any_eq_true.1 hc
  have := h k (List.mem_range.1 hk)
  rw [this] at e
  cases e
theorem sideTo_bd (ps : List (Int × Int)) (x z : Int) : ∀ k : Nat, sideTo ps x z k = 1 ∨ sideTo ps x z k = -1
  | 0 => by simp [sideTo]
  | k + 1 => by
    have := sideTo_bd ps x z k
    unfold sideTo
    split <;> omega
theorem sideTo_yes {ps : List (Int × Int)} {x z : Int} {k : Nat} (h : flipE ps x z k = true) : -sideTo ps x z k = sideTo ps x z (k + 1) := by
  conv => rhs; unfold sideTo
  rw [if_pos h]
theorem sideTo_no {ps : List (Int × Int)} {x z : Int} {k : Nat} (h : flipE ps x z k = false) : sideTo ps x z k = sideTo ps x z (k + 1) := by
  conv => rhs; unfold sideTo
  rw [if_neg (by simp [h])]

set_option maxHeartbeats 4000000 in
theorem i_side (A : Option Addr) (c : Nat) (ps : List (Int × Int)) (px pz : Int) (w : World) (h : SlAt w 2 encP A ps) (h0 : 0 < ps.length) (hl : ps.length ≤ 1000) :
    Calls Tryz.prog 38 #[.slice A ps.length c, .agg #[.int .i64 px, .int .i64 pz]] w fun e w' => e = .returned (.int .i64 (sideZ ps px pz)) ∧ Ext w w' := by
  obtain ⟨b, off, rfl, hb0⟩ := h.open_ h0
  have hx0 : Ext w (w.alloc (.cells #[.int .i64 px, .int .i64 pz] 35)) := by (repeat (first | with_reducible exact Ext.refl _ | with_reducible assumption | ((with_reducible apply Src.ext); with_reducible assumption) | with_reducible refine Ext.alloc ?_ _ | with_reducible refine Ext.drew ?_ | with_reducible refine Ext.drewN ?_ _ | ((with_reducible refine Ext.setCell' ?_ ?_ _); solve | omega | simp | (simp; omega)) | (with_reducible refine Ext.trans ?_ (by with_reducible assumption))))
  have h1 := h.ext hx0
  go_enter Tryz.func38, Tryz.ntmps38
  go_wp2
  go_loopw [5, 11] (fun s i wr => ∃ k : Nat, k ≤ ps.length ∧ i = .int .i64 k ∧ s = .int .i64 (sideTo ps px pz k) ∧ OffTo ps px pz k ∧ Ext (w.alloc (.cells #[.int .i64 px, .int .i64 pz] 35)) wr) (fun _ i _ => ps.length - (intOf i).toNat)
  case atStart => exact ⟨0, Nat.zero_le _, rfl, rfl, fun j hj => by omega, by (repeat (first | with_reducible exact Ext.refl _ | with_reducible assumption | ((with_reducible apply Src.ext); with_reducible assumption) | with_reducible refine Ext.alloc ?_ _ | with_reducible refine Ext.drew ?_ | with_reducible refine Ext.drewN ?_ _ | ((with_reducible refine Ext.setCell' ?_ ?_ _); solve | omega | simp | (simp; omega)) | (with_reducible refine Ext.trans ?_ (by with_reducible assumption))))⟩
  case round =>
    obtain ⟨k, hk, rfl, rfl, hoff, hxr⟩ := hrel
    obtain ⟨hcr, hfr⟩ := hxr.rules
    have hsr := hxr.size
    simp at hsr
    (have := (show w.heap.size < wr.heap.size from by omega))
    by_cases hlt : k < ps.length
    · have hS := h1.ext hxr
      obtain ⟨d0, d1⟩ := hS.ring hlt
      have hbr : b < wr.heap.size := by omega
      clear hb0
      have m4 := sideTo_bd ps px pz k
      (have := (show b < wr.heap.size + 1 from by omega); have := (show b < wr.heap.size + 1 + 1 from by omega))
      (have := (show w.heap.size < wr.heap.size + 1 from by omega); have := (show w.heap.size < wr.heap.size + 1 + 1 from by omega))
      by_cases hon : onE ps px pz k = true
      · have hi : ∀ W, Calls Tryz.prog 74 #[.agg #[.int .i64 (ptx ps k), .int .i64 (ptz ps k)], .agg #[.int .i64 (ptx ps (k + 1)), .int .i64 (ptz ps (k + 1))], .agg #[.int .i64 px, .int .i64 pz]] W fun e w' => e = .returned (.bool true) ∧ Ext W w' := fun W => as_bool (i_isOn _ _ _ _ _ _ _) hon
        have HI := Lib.hid hi
        have HON := Lib.hid hon
        clear hi hon
        go_wp2_with (first | (go_at_call 73; refine (i_corner _ _ ps _ _ (hS.ext (by (repeat (first | with_reducible exact Ext.refl _ | with_reducible assumption | ((with_reducible apply Src.ext); with_reducible assumption) | with_reducible refine Ext.alloc ?_ _ | with_reducible refine Ext.drew ?_ | with_reducible refine Ext.drewN ?_ _ | ((with_reducible refine Ext.setCell' ?_ ?_ _); solve | omega | simp | (simp; omega)) | (with_reducible refine Ext.trans ?_ (by with_reducible assumption)))))) h0 (by omega) (by omega) (by omega)).mono ?_; rintro e w1 ⟨rfl, hx1⟩; obtain ⟨hc1, hf1⟩ := hx1.rules; have hs1 := hx1.size; (try simp at hs1); have := (show wr.heap.size < w1.heap.size from by omega); have := (show w.heap.size < w1.heap.size from by omega)) | (go_at_call 74; refine (HI.out _).mono ?_; rintro e w2 ⟨rfl, hx2⟩; obtain ⟨hc2, hf2⟩ := hx2.rules; have hs2 := hx2.size; (try simp at hs2); have := (show wr.heap.size < w2.heap.size from by omega); have := (show w.heap.size < w2.heap.size from by omega)))
        go_ret
        exact ⟨ret_int (sideZ_on hlt HON.out), by (repeat (first | with_reducible exact Ext.refl _ | with_reducible assumption | ((with_reducible apply Src.ext); with_reducible assumption) | with_reducible refine Ext.alloc ?_ _ | with_reducible refine Ext.drew ?_ | with_reducible refine Ext.drewN ?_ _ | ((with_reducible refine Ext.setCell' ?_ ?_ _); solve | omega | simp | (simp; omega)) | (with_reducible refine Ext.trans ?_ (by with_reducible assumption))))⟩
      · have hon' : onE ps px pz k = false := Bool.eq_false_iff.2 hon
        have hi : ∀ W, Calls Tryz.prog 74 #[.agg #[.int .i64 (ptx ps k), .int .i64 (ptz ps k)], .agg #[.int .i64 (ptx ps (k + 1)), .int .i64 (ptz ps (k + 1))], .agg #[.int .i64 px, .int .i64 pz]] W fun e w' => e = .returned (.bool false) ∧ Ext W w' := fun W => as_bool (i_isOn _ _ _ _ _ _ _) hon'
        have HI := Lib.hid hi
        have HOFF := Lib.hid (hoff.succ hon')
        clear hi hon hon' hoff
        by_cases g8 : (decide (pz < ptz ps k) == decide (pz < ptz ps (k + 1))) = true
        · have HF := Lib.hid (show flipE ps px pz k = false from by unfold flipE; rw [bne]; simp only [g8]; rfl)
          go_wp2_with (first | (go_at_call 73; refine (i_corner _ _ ps _ _ (hS.ext (by (repeat (first | with_reducible exact Ext.refl _ | with_reducible assumption | ((with_reducible apply Src.ext); with_reducible assumption) | with_reducible refine Ext.alloc ?_ _ | with_reducible refine Ext.drew ?_ | with_reducible refine Ext.drewN ?_ _ | ((with_reducible refine Ext.setCell' ?_ ?_ _); solve | omega | simp | (simp; omega)) | (with_reducible refine Ext.trans ?_ (by with_reducible assumption)))))) h0 (by omega) (by omega) (by omega)).mono ?_; rintro e w1 ⟨rfl, hx1⟩; obtain ⟨hc1, hf1⟩ := hx1.rules; have hs1 := hx1.size; (try simp at hs1); have := (show wr.heap.size < w1.heap.size from by omega); have := (show w.heap.size < w1.heap.size from by omega)) | (go_at_call 74; refine (HI.out _).mono ?_; rintro e w2 ⟨rfl, hx2⟩; obtain ⟨hc2, hf2⟩ := hx2.rules; have hs2 := hx2.size; (try simp at hs2); have := (show wr.heap.size < w2.heap.size from by omega); have := (show w.heap.size < w2.heap.size from by omega); have := (show w1.heap.size < w2.heap.size from by omega)))
          go_roundw
          case rel => exact ⟨k + 1, by omega, by go_num, congrArg (Value.int .i64) (sideTo_no HF.out), HOFF.out, by (repeat (first | with_reducible exact Ext.refl _ | with_reducible assumption | ((with_reducible apply Src.ext); with_reducible assumption) | with_reducible refine Ext.alloc ?_ _ | with_reducible refine Ext.drew ?_ | with_reducible refine Ext.drewN ?_ _ | ((with_reducible refine Ext.setCell' ?_ ?_ _); solve | omega | simp | (simp; omega)) | (with_reducible refine Ext.trans ?_ (by with_reducible assumption))))⟩
          case measure => simp [intOf]; omega
        · have g8 := Bool.eq_false_iff.2 g8
          by_cases g9 : (decide (0 < turnW (ptx ps k) (ptz ps k) (ptx ps (k + 1)) (ptz ps (k + 1)) px pz) == decide (ptz ps k < ptz ps (k + 1))) = true
          · have HF := Lib.hid (show flipE ps px pz k = true from by unfold flipE; rw [bne]; simp only [g8, g9]; rfl)
            go_wp2_with (first | (go_at_call 73; refine (i_corner _ _ ps _ _ (hS.ext (by (repeat (first | with_reducible exact Ext.refl _ | with_reducible assumption | ((with_reducible apply Src.ext); with_reducible assumption) | with_reducible refine Ext.alloc ?_ _ | with_reducible refine Ext.drew ?_ | with_reducible refine Ext.drewN ?_ _ | ((with_reducible refine Ext.setCell' ?_ ?_ _); solve | omega | simp | (simp; omega)) | (with_reducible refine Ext.trans ?_ (by with_reducible assumption)))))) h0 (by omega) (by omega) (by omega)).mono ?_; rintro e w1 ⟨rfl, hx1⟩; obtain ⟨hc1, hf1⟩ := hx1.rules; have hs1 := hx1.size; (try simp at hs1); have := (show wr.heap.size < w1.heap.size from by omega); have := (show w.heap.size < w1.heap.size from by omega)) | (go_at_call 74; refine (HI.out _).mono ?_; rintro e w2 ⟨rfl, hx2⟩; obtain ⟨hc2, hf2⟩ := hx2.rules; have hs2 := hx2.size; (try simp at hs2); have := (show wr.heap.size < w2.heap.size from by omega); have := (show w.heap.size < w2.heap.size from by omega); have := (show w1.heap.size < w2.heap.size from by omega)))
            (refine wp_region_ext (by kernel_rfl) (by kernel_rfl) ?_; (repeat (go_big_quiet_step ((go_at_call 75; exact Calls_ext (i_turn _ _ _ _ _ _ _))))); refine wpQuiet_nil ?_; intro wq hxwq; obtain ⟨hcwq, hfwq⟩ := hxwq.rules; have hswq := hxwq.size; (try simp at hswq))
            go_wp2
            go_roundw
            case rel => exact ⟨k + 1, by omega, by go_num, congrArg (Value.int .i64) (sideTo_yes HF.out), HOFF.out, by (repeat (first | with_reducible exact Ext.refl _ | with_reducible assumption | ((with_reducible apply Src.ext); with_reducible assumption) | with_reducible refine Ext.alloc ?_ _ | with_reducible refine Ext.drew ?_ | with_reducible refine Ext.drewN ?_ _ | ((with_reducible refine Ext.setCell' ?_ ?_ _); solve | omega | simp | (simp; omega)) | (with_reducible refine Ext.trans ?_ (by with_reducible assumption))))⟩
            case measure => simp [intOf]; omega
          · have g9 := Bool.eq_false_iff.2 g9
            have HF := Lib.hid (show flipE ps px pz k = false from by unfold flipE; rw [bne]; simp only [g8, g9]; rfl)
            go_wp2_with (first | (go_at_call 73; refine (i_corner _ _ ps _ _ (hS.ext (by (repeat (first | with_reducible exact Ext.refl _ | with_reducible assumption | ((with_reducible apply Src.ext); with_reducible assumption) | with_reducible refine Ext.alloc ?_ _ | with_reducible refine Ext.drew ?_ | with_reducible refine Ext.drewN ?_ _ | ((with_reducible refine Ext.setCell' ?_ ?_ _); solve | omega | simp | (simp; omega)) | (with_reducible refine Ext.trans ?_ (by with_reducible assumption)))))) h0 (by omega) (by omega) (by omega)).mono ?_; rintro e w1 ⟨rfl, hx1⟩; obtain ⟨hc1, hf1⟩ := hx1.rules; have hs1 := hx1.size; (try simp at hs1); have := (show wr.heap.size < w1.heap.size from by omega); have := (show w.heap.size < w1.heap.size from by omega)) | (go_at_call 74; refine (HI.out _).mono ?_; rintro e w2 ⟨rfl, hx2⟩; obtain ⟨hc2, hf2⟩ := hx2.rules; have hs2 := hx2.size; (try simp at hs2); have := (show wr.heap.size < w2.heap.size from by omega); have := (show w.heap.size < w2.heap.size from by omega); have := (show w1.heap.size < w2.heap.size from by omega)))
            (refine wp_region_ext (by kernel_rfl) (by kernel_rfl) ?_; (repeat (go_big_quiet_step ((go_at_call 75; exact Calls_ext (i_turn _ _ _ _ _ _ _))))); refine wpQuiet_nil ?_; intro wq hxwq; obtain ⟨hcwq, hfwq⟩ := hxwq.rules; have hswq := hxwq.size; (try simp at hswq))
            go_wp2
            go_roundw
            case rel => exact ⟨k + 1, by omega, by go_num, congrArg (Value.int .i64) (sideTo_no HF.out), HOFF.out, by (repeat (first | with_reducible exact Ext.refl _ | with_reducible assumption | ((with_reducible apply Src.ext); with_reducible assumption) | with_reducible refine Ext.alloc ?_ _ | with_reducible refine Ext.drew ?_ | with_reducible refine Ext.drewN ?_ _ | ((with_reducible refine Ext.setCell' ?_ ?_ _); solve | omega | simp | (simp; omega)) | (with_reducible refine Ext.trans ?_ (by with_reducible assumption))))⟩
            case measure => simp [intOf]; omega
    · go_wp2
      go_ret
      obtain rfl : k = ps.length := by omega
      exact ⟨ret_int (sideZ_off hoff), by (repeat (first | with_reducible exact Ext.refl _ | with_reducible assumption | ((with_reducible apply Src.ext); with_reducible assumption) | with_reducible refine Ext.alloc ?_ _ | with_reducible refine Ext.drew ?_ | with_reducible refine Ext.drewN ?_ _ | ((with_reducible refine Ext.setCell' ?_ ?_ _); solve | omega | simp | (simp; omega)) | (with_reducible refine Ext.trans ?_ (by with_reducible assumption))))⟩

theorem flipE_swap {ps : List (Int × Int)} {x z : Int} {k : Int} (ho : Bd2 ps) (h5 : -2000 ≤ x ∧ x ≤ 2000) (h6 : -2000 ≤ z ∧ z ≤ 2000) (hn : onE ps x z k = false) (hs : ptz ps (k + 1) < ptz ps k) :
    flipE ps x z k = (decide (ptz ps (k + 1) ≤ z) && decide (z < ptz ps k) && decide (0 < turnW (ptx ps (k + 1)) (ptz ps (k + 1)) (ptx ps k) (ptz ps k) x z)) := by
  have m0 := (ho k).1
  have m1 := (ho (k + 1)).1
  have m2 := (ho k).2
  have m3 := (ho (k + 1)).2
  rw [turnW_swap2 m0 m2 m1 m3 h5 h6]
  unfold flipE
  unfold onE at hn
  have h0 : turnW (ptx ps k) (ptz ps k) (ptx ps (k + 1)) (ptz ps (k + 1)) x z = 0 → ¬ (ptz ps (k + 1) ≤ z ∧ z < ptz ps k) := by
    intro e hc
    have := on_of_straight2 m0 m2 m1 m3 h5 h6 e ⟨hs, hc.1, by omega⟩
    rw [this] at hn
    cases hn
  generalize turnW (ptx ps k) (ptz ps k) (ptx ps (k + 1)) (ptz ps (k + 1)) x z = T at *
  clear hn m0 m1 m2 m3 h5 h6
  by_cases a1 : z < ptz ps k
  · by_cases a2 : z < ptz ps (k + 1)
    · simp [a1, a2, show ¬ ptz ps (k + 1) ≤ z by omega]
    · have a3 : ¬ ptz ps k < ptz ps (k + 1) := by omega
      have a4 : ptz ps (k + 1) ≤ z := by omega
      have a5 : (0 < T) ↔ ¬ (0 < -T) := by
        have := h0
        constructor
        · omega
        · intro q; have := h0; by_cases e : T = 0
          · exact absurd ⟨a4, a1⟩ (this e)
          · omega
      by_cases a6 : 0 < T
      · have a7 := a5.1 a6
        simp [a1, a2, a3, a4, a6]; omega
      · have a7 : 0 < -T := Decidable.not_not.1 fun q => a6 (a5.2 q)
        simp [a1, a2, a3, a4, a6]; omega
  · have a2 : ¬ z < ptz ps (k + 1) := by omega
    simp [a1, a2]
theorem flipE_same {ps : List (Int × Int)} {x z : Int} {k : Int} (hs : ¬ ptz ps (k + 1) < ptz ps k) :
    flipE ps x z k = (decide (ptz ps k ≤ z) && decide (z < ptz ps (k + 1)) && decide (0 < turnW (ptx ps k) (ptz ps k) (ptx ps (k + 1)) (ptz ps (k + 1)) x z)) := by
  unfold flipE
  generalize turnW (ptx ps k) (ptz ps k) (ptx ps (k + 1)) (ptz ps (k + 1)) x z = T
  by_cases a1 : z < ptz ps k
  · have a2 : z < ptz ps (k + 1) := by omega
    simp [a1, a2, show ¬ ptz ps k ≤ z by omega]
  · by_cases a2 : z < ptz ps (k + 1)
    · have a3 : ptz ps k < ptz ps (k + 1) := by omega
      by_cases a6 : 0 < T
      · simp [a1, a2, a3, a6]; omega
      · simp [a1, a2, a3, a6]
    · simp [a1, a2]

set_option maxHeartbeats 4000000 in
theorem s_side2 (A : Option Addr) (c : Nat) (ps : List (Int × Int)) (px pz : Int) (w : World) (h : SlAt w 2 encP A ps) (h0 : 0 < ps.length) (hl : ps.length ≤ 1000) (ho : Bd2 ps) (hp : (-2000 ≤ px ∧ px ≤ 2000) ∧ (-2000 ≤ pz ∧ pz ≤ 2000)) :
    Calls Tryz.prog 31 #[.slice A ps.length c, .agg #[.int .i64 px, .int .i64 pz]] w fun e w' => e = .returned (.int .i64 (sideZ ps px pz)) ∧ Ext w w' := by
  obtain ⟨b, off, rfl, hb0⟩ := h.open_ h0
  have hp1 := hp.1
  have hp2 := hp.2
  have HO := Lib.hid ho
  clear ho hp
  have hx0 : Ext w (w.alloc (.cells #[.int .i64 px, .int .i64 pz] 35)) := by (repeat (first | with_reducible exact Ext.refl _ | with_reducible assumption | ((with_reducible apply Src.ext); with_reducible assumption) | with_reducible refine Ext.alloc ?_ _ | with_reducible refine Ext.drew ?_ | with_reducible refine Ext.drewN ?_ _ | ((with_reducible refine Ext.setCell' ?_ ?_ _); solve | omega | simp | (simp; omega)) | (with_reducible refine Ext.trans ?_ (by with_reducible assumption))))
  have h1 := h.ext hx0
  go_enter Tryz.func31, Tryz.ntmps31
  go_wp2
  go_loopw [5, 6] (fun s i wr => ∃ k : Nat, k ≤ ps.length ∧ i = .int .i64 k ∧ s = .int .i64 (sideTo ps px pz k) ∧ OffTo ps px pz k ∧ Ext (w.alloc (.cells #[.int .i64 px, .int .i64 pz] 35)) wr) (fun _ i _ => ps.length - (intOf i).toNat)
  case atStart => exact ⟨0, Nat.zero_le _, rfl, rfl, fun j hj => by omega, by (repeat (first | with_reducible exact Ext.refl _ | with_reducible assumption | ((with_reducible apply Src.ext); with_reducible assumption) | with_reducible refine Ext.alloc ?_ _ | with_reducible refine Ext.drew ?_ | with_reducible refine Ext.drewN ?_ _ | ((with_reducible refine Ext.setCell' ?_ ?_ _); solve | omega | simp | (simp; omega)) | (with_reducible refine Ext.trans ?_ (by with_reducible assumption))))⟩
  case round =>
    obtain ⟨k, hk, rfl, rfl, hoff, hxr⟩ := hrel
    by_cases hlt : k < ps.length
    · have hS := h1.ext hxr
      obtain ⟨d0, d1⟩ := hS.ring hlt
      have hsr := hxr.size
      simp at hsr
      have hbr : b < wr.heap.size := by omega
      clear hb0
      have m4 := sideTo_bd ps px pz k
      (have := (show b < wr.heap.size + 1 from by omega); have := (show b < wr.heap.size + 1 + 1 from by omega); have := (show b < wr.heap.size + 1 + 1 + 1 from by omega))
      have n1 : ¬ b = wr.heap.size := by omega
      have n2 : ¬ wr.heap.size = b := by omega
      have n3 : ¬ b = wr.heap.size + 1 := by omega
      have n4 : ¬ wr.heap.size + 1 = b := by omega
      have hw1 : IntKind.i64.wrap ((k : Int) + 1) = (k : Int) + 1 := IntWalk.i64_in _ (by omega)
      go_upto_region 5 with (fail)
      go_cut [7, 8] (fun p q wx => ∃ b5 b6 : Nat, p = .pointer (some ⟨b5, 0, none⟩) ∧ q = .pointer (some ⟨b6, 0, none⟩) ∧ Blk wx b5 35 #[.int .i64 (ptx ps k), .int .i64 (ptz ps k)] ∧ Blk wx b6 35 #[.int .i64 (ptx ps (k + 1)), .int .i64 (ptz ps (k + 1))] ∧ Ext wr wx ∧ ¬ b5 = b6 ∧ wr.heap.size ≤ b5 ∧ wr.heap.size ≤ b6)
      case first =>
        go_region_held3 (fun w' => w'.cell? ⟨b, off + k * 2, none⟩ = some (.int .i64 (ptx ps k)) ∧ w'.cell? ⟨b, off + k * 2 + 1, none⟩ = some (.int .i64 (ptz ps k))) (go_keep) (first | ((go_at_call 66; refine (s_corner _ _ ps _ _ (hS.ext (by (repeat (first | with_reducible exact Ext.refl _ | with_reducible assumption | ((with_reducible apply Src.ext); with_reducible assumption) | with_reducible refine Ext.alloc ?_ _ | with_reducible refine Ext.drew ?_ | with_reducible refine Ext.drewN ?_ _ | ((with_reducible refine Ext.setCell' ?_ ?_ _); solve | omega | simp | (simp; omega)) | (with_reducible refine Ext.trans ?_ (by with_reducible assumption)))))) h0 (by omega) (by omega) (by omega)).mono ?_; rintro e w1 ⟨rfl, hx1⟩; obtain ⟨hc1, hf1⟩ := hx1.rules; have hs1 := hx1.size; (try simp at hs1); have hl1 : ∀ n, n < _ → n < w1.heap.size := fun n h => Nat.lt_of_lt_of_le h hx1.size; have := (show b < w1.heap.size from by omega)); have k0 := (hx1.cell b (off + k * 2) (by simp; omega)).trans (show _ = some (.int .i64 (ptx ps k)) by simp [*]); have k1 := (hx1.cell b (off + k * 2 + 1) (by simp; omega)).trans (show _ = some (.int .i64 (ptz ps k)) by simp [*]); (have := (show b < w1.heap.size + 1 from by omega); have := (show b < w1.heap.size + 1 + 1 from by omega)); have := (show ¬ b = w1.heap.size from by omega); have := (show ¬ w1.heap.size = b from by omega); have := (show ¬ b = w1.heap.size + 1 from by omega); have := (show ¬ w1.heap.size + 1 = b from by omega)))
        all_goals (go_wp2_with fail; go_meet; exact ⟨_, _, rfl, rfl, Blk.eq (by (repeat (first | with_reducible assumption | ((with_reducible apply Blk.new); solve | simp | rfl) | with_reducible apply Blk.drew | with_reducible apply Blk.drewN | ((with_reducible apply Blk.far'); solve | omega | simp | (simp; omega)) | with_reducible apply Blk.set_ | with_reducible apply Blk.alloc | ((with_reducible apply Blk.ext'); with_reducible assumption) | ((with_reducible apply Blk.but'); (with_reducible assumption); solve | omega | (simp; omega))))) (by rfl), Blk.eq (by (repeat (first | with_reducible assumption | ((with_reducible apply Blk.new); solve | simp | rfl) | with_reducible apply Blk.drew | with_reducible apply Blk.drewN | ((with_reducible apply Blk.far'); solve | omega | simp | (simp; omega)) | with_reducible apply Blk.set_ | with_reducible apply Blk.alloc | ((with_reducible apply Blk.ext'); with_reducible assumption) | ((with_reducible apply Blk.but'); (with_reducible assumption); solve | omega | (simp; omega))))) (by rfl), by (repeat (first | with_reducible exact Ext.refl _ | with_reducible assumption | ((with_reducible apply Src.ext); with_reducible assumption) | with_reducible refine Ext.alloc ?_ _ | with_reducible refine Ext.drew ?_ | with_reducible refine Ext.drewN ?_ _ | ((with_reducible refine Ext.setCell' ?_ ?_ _); solve | omega | simp | (simp; omega)) | (with_reducible refine Ext.trans ?_ (by with_reducible assumption)))), by first | omega | (simp; done) | (simp; omega), by first | omega | (simp; done) | (simp; omega), by first | omega | (simp; done) | (simp; omega)⟩)
      case rest =>
      obtain ⟨b5, b6, rfl, rfl, B5, B6, hxc, n56, n5, n6⟩ := hcut
      have e0 : wc.cell? ⟨b5, 0, none⟩ = some (.int .i64 (ptx ps k)) := B5.cell 0
      have e1 : wc.cell? ⟨b5, 1, none⟩ = some (.int .i64 (ptz ps k)) := B5.cell 1
      have e2 : wc.cell? ⟨b6, 0, none⟩ = some (.int .i64 (ptx ps (k + 1))) := B6.cell 0
      have e3 : wc.cell? ⟨b6, 1, none⟩ = some (.int .i64 (ptz ps (k + 1))) := B6.cell 1
      have z5 := B5.lt
      have z6 := B6.lt
      have fz50 := B5.frozen 0
      have fz51 := B5.frozen 1
      have fz60 := B6.frozen 0
      have fz61 := B6.frozen 1
      have n65 : ¬ b6 = b5 := fun e => n56 e.symm
      have f0 : wc.cell? ⟨w.heap.size, 0, none⟩ = some (.int .i64 px) := ((hxr.trans hxc).cell w.heap.size 0 (by simp)).trans (by simp)
      have f1 : wc.cell? ⟨w.heap.size, 1, none⟩ = some (.int .i64 pz) := ((hxr.trans hxc).cell w.heap.size 1 (by simp)).trans (by simp)
      have z0 : w.heap.size < wc.heap.size := by have := hxc.size; omega
      have n1 : ¬ w.heap.size = b5 := by omega
      have n2 : ¬ b5 = w.heap.size := by omega
      have n3 : ¬ w.heap.size = b6 := by omega
      have n4 : ¬ b6 = w.heap.size := by omega
      by_cases hon : onE ps px pz k = true
      · have hi : ∀ W, Calls Tryz.prog 67 #[.agg #[.int .i64 (ptx ps k), .int .i64 (ptz ps k)], .agg #[.int .i64 (ptx ps (k + 1)), .int .i64 (ptz ps (k + 1))], .agg #[.int .i64 px, .int .i64 pz]] W fun e w' => e = .returned (.bool true) ∧ Ext W w' := fun W => as_bool (s_isOn _ _ _ _ _ _ _) hon
        have HI := Lib.hid hi
        have HON := Lib.hid hon
        clear hi hon
        go_wp2_with (first | (go_at_call 67; refine (HI.out _).mono ?_; rintro e w2 ⟨rfl, hx2⟩; obtain ⟨hc2, hf2⟩ := hx2.rules; have hs2 := hx2.size; (try simp at hs2); have := (show b5 < w2.heap.size from by omega); have := (show b6 < w2.heap.size from by omega); have := (show w.heap.size < w2.heap.size from by omega)))
        go_ret
        exact ⟨ret_int (sideZ_on hlt HON.out), by (repeat (first | with_reducible exact Ext.refl _ | with_reducible assumption | ((with_reducible apply Src.ext); with_reducible assumption) | with_reducible refine Ext.alloc ?_ _ | with_reducible refine Ext.drew ?_ | with_reducible refine Ext.drewN ?_ _ | ((with_reducible refine Ext.setCell' ?_ ?_ _); solve | omega | simp | (simp; omega)) | (with_reducible refine Ext.trans ?_ (by with_reducible assumption))))⟩
      · have hon' : onE ps px pz k = false := Bool.eq_false_iff.2 hon
        have hi : ∀ W, Calls Tryz.prog 67 #[.agg #[.int .i64 (ptx ps k), .int .i64 (ptz ps k)], .agg #[.int .i64 (ptx ps (k + 1)), .int .i64 (ptz ps (k + 1))], .agg #[.int .i64 px, .int .i64 pz]] W fun e w' => e = .returned (.bool false) ∧ Ext W w' := fun W => as_bool (s_isOn _ _ _ _ _ _ _) hon'
        have HI := Lib.hid hi
        have HOFF := Lib.hid (hoff.succ hon')
        by_cases q0 : ptz ps (k + 1) < ptz ps k
        · have hf := flipE_swap HO.out hp1 hp2 hon' q0
          clear hi hon hon' hoff
          by_cases r1 : ptz ps (k + 1) ≤ pz
          · by_cases r2 : pz < ptz ps k
            · by_cases r3 : 0 < turnW (ptx ps (k + 1)) (ptz ps (k + 1)) (ptx ps k) (ptz ps k) px pz
              · have HF := Lib.hid (hf.trans (show _ = true by simp [*]))
                clear hf
                go_wp2_with (first | (go_at_call 67; refine (HI.out _).mono ?_; rintro e w2 ⟨rfl, hx2⟩; obtain ⟨hc2, hf2⟩ := hx2.rules; have hs2 := hx2.size; (try simp at hs2); have := (show b5 < w2.heap.size from by omega); have := (show b6 < w2.heap.size from by omega); have := (show w.heap.size < w2.heap.size from by omega)) | (go_at_call 68; refine (s_turn _ _ _ _ _ _ _).mono ?_; rintro e w3 ⟨rfl, hx3⟩; obtain ⟨hc3, hf3⟩ := hx3.rules; have hs3 := hx3.size; (try simp at hs3); have := (show b5 < w3.heap.size from by omega); have := (show b6 < w3.heap.size from by omega); have := (show w.heap.size < w3.heap.size from by omega)))
                go_roundw
                case rel => exact ⟨k + 1, by omega, by go_num, congrArg (Value.int .i64) (sideTo_yes HF.out), HOFF.out, by (repeat (first | with_reducible exact Ext.refl _ | with_reducible assumption | ((with_reducible apply Src.ext); with_reducible assumption) | with_reducible refine Ext.alloc ?_ _ | with_reducible refine Ext.drew ?_ | with_reducible refine Ext.drewN ?_ _ | ((with_reducible refine Ext.setCell' ?_ ?_ _); solve | omega | simp | (simp; omega)) | (with_reducible refine Ext.trans ?_ (by with_reducible assumption))))⟩
                case measure => simp [intOf]; omega
              · have HF := Lib.hid (hf.trans (show _ = false by simp [*]))
                clear hf
                go_wp2_with (first | (go_at_call 67; refine (HI.out _).mono ?_; rintro e w2 ⟨rfl, hx2⟩; obtain ⟨hc2, hf2⟩ := hx2.rules; have hs2 := hx2.size; (try simp at hs2); have := (show b5 < w2.heap.size from by omega); have := (show b6 < w2.heap.size from by omega); have := (show w.heap.size < w2.heap.size from by omega)) | (go_at_call 68; refine (s_turn _ _ _ _ _ _ _).mono ?_; rintro e w3 ⟨rfl, hx3⟩; obtain ⟨hc3, hf3⟩ := hx3.rules; have hs3 := hx3.size; (try simp at hs3); have := (show b5 < w3.heap.size from by omega); have := (show b6 < w3.heap.size from by omega); have := (show w.heap.size < w3.heap.size from by omega)))
                go_roundw
                case rel => exact ⟨k + 1, by omega, by go_num, congrArg (Value.int .i64) (sideTo_no HF.out), HOFF.out, by (repeat (first | with_reducible exact Ext.refl _ | with_reducible assumption | ((with_reducible apply Src.ext); with_reducible assumption) | with_reducible refine Ext.alloc ?_ _ | with_reducible refine Ext.drew ?_ | with_reducible refine Ext.drewN ?_ _ | ((with_reducible refine Ext.setCell' ?_ ?_ _); solve | omega | simp | (simp; omega)) | (with_reducible refine Ext.trans ?_ (by with_reducible assumption))))⟩
                case measure => simp [intOf]; omega
            · have HF := Lib.hid (hf.trans (show _ = false by simp [*]))
              clear hf
              go_wp2_with (first | (go_at_call 67; refine (HI.out _).mono ?_; rintro e w2 ⟨rfl, hx2⟩; obtain ⟨hc2, hf2⟩ := hx2.rules; have hs2 := hx2.size; (try simp at hs2); have := (show b5 < w2.heap.size from by omega); have := (show b6 < w2.heap.size from by omega); have := (show w.heap.size < w2.heap.size from by omega)) | (go_at_call 68; refine (s_turn _ _ _ _ _ _ _).mono ?_; rintro e w3 ⟨rfl, hx3⟩; obtain ⟨hc3, hf3⟩ := hx3.rules; have hs3 := hx3.size; (try simp at hs3); have := (show b5 < w3.heap.size from by omega); have := (show b6 < w3.heap.size from by omega); have := (show w.heap.size < w3.heap.size from by omega)))
              go_roundw
              case rel => exact ⟨k + 1, by omega, by go_num, congrArg (Value.int .i64) (sideTo_no HF.out), HOFF.out, by (repeat (first | with_reducible exact Ext.refl _ | with_reducible assumption | ((with_reducible apply Src.ext); with_reducible assumption) | with_reducible refine Ext.alloc ?_ _ | with_reducible refine Ext.drew ?_ | with_reducible refine Ext.drewN ?_ _ | ((with_reducible refine Ext.setCell' ?_ ?_ _); solve | omega | simp | (simp; omega)) | (with_reducible refine Ext.trans ?_ (by with_reducible assumption))))⟩
              case measure => simp [intOf]; omega
          · have HF := Lib.hid (hf.trans (show _ = false by simp [*]))
            clear hf
            go_wp2_with (first | (go_at_call 67; refine (HI.out _).mono ?_; rintro e w2 ⟨rfl, hx2⟩; obtain ⟨hc2, hf2⟩ := hx2.rules; have hs2 := hx2.size; (try simp at hs2); have := (show b5 < w2.heap.size from by omega); have := (show b6 < w2.heap.size from by omega); have := (show w.heap.size < w2.heap.size from by omega)) | (go_at_call 68; refine (s_turn _ _ _ _ _ _ _).mono ?_; rintro e w3 ⟨rfl, hx3⟩; obtain ⟨hc3, hf3⟩ := hx3.rules; have hs3 := hx3.size; (try simp at hs3); have := (show b5 < w3.heap.size from by omega); have := (show b6 < w3.heap.size from by omega); have := (show w.heap.size < w3.heap.size from by omega)))
            go_roundw
            case rel => exact ⟨k + 1, by omega, by go_num, congrArg (Value.int .i64) (sideTo_no HF.out), HOFF.out, by (repeat (first | with_reducible exact Ext.refl _ | with_reducible assumption | ((with_reducible apply Src.ext); with_reducible assumption) | with_reducible refine Ext.alloc ?_ _ | with_reducible refine Ext.drew ?_ | with_reducible refine Ext.drewN ?_ _ | ((with_reducible refine Ext.setCell' ?_ ?_ _); solve | omega | simp | (simp; omega)) | (with_reducible refine Ext.trans ?_ (by with_reducible assumption))))⟩
            case measure => simp [intOf]; omega
        · have hf := flipE_same (x := px) (z := pz) q0
          clear hi hon hon' hoff
          by_cases r1 : ptz ps k ≤ pz
          · by_cases r2 : pz < ptz ps (k + 1)
            · by_cases r3 : 0 < turnW (ptx ps k) (ptz ps k) (ptx ps (k + 1)) (ptz ps (k + 1)) px pz
              · have HF := Lib.hid (hf.trans (show _ = true by simp [*]))
                clear hf
                go_wp2_with (first | (go_at_call 67; refine (HI.out _).mono ?_; rintro e w2 ⟨rfl, hx2⟩; obtain ⟨hc2, hf2⟩ := hx2.rules; have hs2 := hx2.size; (try simp at hs2); have := (show b5 < w2.heap.size from by omega); have := (show b6 < w2.heap.size from by omega); have := (show w.heap.size < w2.heap.size from by omega)) | (go_at_call 68; refine (s_turn _ _ _ _ _ _ _).mono ?_; rintro e w3 ⟨rfl, hx3⟩; obtain ⟨hc3, hf3⟩ := hx3.rules; have hs3 := hx3.size; (try simp at hs3); have := (show b5 < w3.heap.size from by omega); have := (show b6 < w3.heap.size from by omega); have := (show w.heap.size < w3.heap.size from by omega)))
                go_roundw
                case rel => exact ⟨k + 1, by omega, by go_num, congrArg (Value.int .i64) (sideTo_yes HF.out), HOFF.out, by (repeat (first | with_reducible exact Ext.refl _ | with_reducible assumption | ((with_reducible apply Src.ext); with_reducible assumption) | with_reducible refine Ext.alloc ?_ _ | with_reducible refine Ext.drew ?_ | with_reducible refine Ext.drewN ?_ _ | ((with_reducible refine Ext.setCell' ?_ ?_ _); solve | omega | simp | (simp; omega)) | (with_reducible refine Ext.trans ?_ (by with_reducible assumption))))⟩
                case measure => simp [intOf]; omega
              · have HF := Lib.hid (hf.trans (show _ = false by simp [*]))
                clear hf
                go_wp2_with (first | (go_at_call 67; refine (HI.out _).mono ?_; rintro e w2 ⟨rfl, hx2⟩; obtain ⟨hc2, hf2⟩ := hx2.rules; have hs2 := hx2.size; (try simp at hs2); have := (show b5 < w2.heap.size from by omega); have := (show b6 < w2.heap.size from by omega); have := (show w.heap.size < w2.heap.size from by omega)) | (go_at_call 68; refine (s_turn _ _ _ _ _ _ _).mono ?_; rintro e w3 ⟨rfl, hx3⟩; obtain ⟨hc3, hf3⟩ := hx3.rules; have hs3 := hx3.size; (try simp at hs3); have := (show b5 < w3.heap.size from by omega); have := (show b6 < w3.heap.size from by omega); have := (show w.heap.size < w3.heap.size from by omega)))
                go_roundw
                case rel => exact ⟨k + 1, by omega, by go_num, congrArg (Value.int .i64) (sideTo_no HF.out), HOFF.out, by (repeat (first | with_reducible exact Ext.refl _ | with_reducible assumption | ((with_reducible apply Src.ext); with_reducible assumption) | with_reducible refine Ext.alloc ?_ _ | with_reducible refine Ext.drew ?_ | with_reducible refine Ext.drewN ?_ _ | ((with_reducible refine Ext.setCell' ?_ ?_ _); solve | omega | simp | (simp; omega)) | (with_reducible refine Ext.trans ?_ (by with_reducible assumption))))⟩
                case measure => simp [intOf]; omega
            · have HF := Lib.hid (hf.trans (show _ = false by simp [*]))
              clear hf
              go_wp2_with (first | (go_at_call 67; refine (HI.out _).mono ?_; rintro e w2 ⟨rfl, hx2⟩; obtain ⟨hc2, hf2⟩ := hx2.rules; have hs2 := hx2.size; (try simp at hs2); have := (show b5 < w2.heap.size from by omega); have := (show b6 < w2.heap.size from by omega); have := (show w.heap.size < w2.heap.size from by omega)) | (go_at_call 68; refine (s_turn _ _ _ _ _ _ _).mono ?_; rintro e w3 ⟨rfl, hx3⟩; obtain ⟨hc3, hf3⟩ := hx3.rules; have hs3 := hx3.size; (try simp at hs3); have := (show b5 < w3.heap.size from by omega); have := (show b6 < w3.heap.size from by omega); have := (show w.heap.size < w3.heap.size from by omega)))
              go_roundw
              case rel => exact ⟨k + 1, by omega, by go_num, congrArg (Value.int .i64) (sideTo_no HF.out), HOFF.out, by (repeat (first | with_reducible exact Ext.refl _ | with_reducible assumption | ((with_reducible apply Src.ext); with_reducible assumption) | with_reducible refine Ext.alloc ?_ _ | with_reducible refine Ext.drew ?_ | with_reducible refine Ext.drewN ?_ _ | ((with_reducible refine Ext.setCell' ?_ ?_ _); solve | omega | simp | (simp; omega)) | (with_reducible refine Ext.trans ?_ (by with_reducible assumption))))⟩
              case measure => simp [intOf]; omega
          · have HF := Lib.hid (hf.trans (show _ = false by simp [*]))
            clear hf
            go_wp2_with (first | (go_at_call 67; refine (HI.out _).mono ?_; rintro e w2 ⟨rfl, hx2⟩; obtain ⟨hc2, hf2⟩ := hx2.rules; have hs2 := hx2.size; (try simp at hs2); have := (show b5 < w2.heap.size from by omega); have := (show b6 < w2.heap.size from by omega); have := (show w.heap.size < w2.heap.size from by omega)) | (go_at_call 68; refine (s_turn _ _ _ _ _ _ _).mono ?_; rintro e w3 ⟨rfl, hx3⟩; obtain ⟨hc3, hf3⟩ := hx3.rules; have hs3 := hx3.size; (try simp at hs3); have := (show b5 < w3.heap.size from by omega); have := (show b6 < w3.heap.size from by omega); have := (show w.heap.size < w3.heap.size from by omega)))
            go_roundw
            case rel => exact ⟨k + 1, by omega, by go_num, congrArg (Value.int .i64) (sideTo_no HF.out), HOFF.out, by (repeat (first | with_reducible exact Ext.refl _ | with_reducible assumption | ((with_reducible apply Src.ext); with_reducible assumption) | with_reducible refine Ext.alloc ?_ _ | with_reducible refine Ext.drew ?_ | with_reducible refine Ext.drewN ?_ _ | ((with_reducible refine Ext.setCell' ?_ ?_ _); solve | omega | simp | (simp; omega)) | (with_reducible refine Ext.trans ?_ (by with_reducible assumption))))⟩
            case measure => simp [intOf]; omega
    · go_wp2
      go_ret
      obtain rfl : k = ps.length := by omega
      exact ⟨ret_int (sideZ_off hoff), by (repeat (first | with_reducible exact Ext.refl _ | with_reducible assumption | ((with_reducible apply Src.ext); with_reducible assumption) | with_reducible refine Ext.alloc ?_ _ | with_reducible refine Ext.drew ?_ | with_reducible refine Ext.drewN ?_ _ | ((with_reducible refine Ext.setCell' ?_ ?_ _); solve | omega | simp | (simp; omega)) | (with_reducible refine Ext.trans ?_ (by with_reducible assumption))))⟩

theorem s_side (A : Option Addr) (c : Nat) (ps : List (Int × Int)) (px pz : Int) (w : World) (h : SlAt w 2 encP A ps) (h0 : 0 < ps.length) (hl : ps.length ≤ 1000) (ho : oks ps = true) (hp : okP px pz = true) :
    Calls Tryz.prog 31 #[.slice A ps.length c, .agg #[.int .i64 px, .int .i64 pz]] w fun e w' => e = .returned (.int .i64 (sideZ ps px pz)) ∧ Ext w w' :=
  s_side2 A c ps px pz w h h0 hl (Bd2.of ho) (by simp [okP, inB] at hp; omega)
end Go.Proofs.YtabdffponmmhoaaGreatDoor
