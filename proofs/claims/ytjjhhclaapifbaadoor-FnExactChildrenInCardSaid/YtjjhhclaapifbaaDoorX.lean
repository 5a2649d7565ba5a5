/- Contracts of the rings: the exported functions, walked over the translation. -/
import Derived.Test.YtjjhhclaapifbaaDoorV
import Derived.Test.YtjjhhclaapifbaaDoorW
import Derived.Deep.DeepCutAuto
import Derived.RegionTactic
import Derived.BigRegion
import Derived.WalkLawsBesides
import Derived.WalkSpells
import Derived.Lib.MinMax
import Derived.Outline
namespace Go.Proofs.YtjjhhclaapifbaaDoor
open Go.RowKit
attribute [local go_sem] ExtOf.cell ExtOf.frozen






noncomputable def ringC (ps : List (Int × Int)) : Int := if ringB ps = true then 0 else 1
theorem ringC_yes {ps : List (Int × Int)} (h : ringB ps = true) : ringC ps = 0 := by simp [ringC, h]
theorem ringC_no {ps : List (Int × Int)} (h : ringB ps = false) : ringC ps = 1 := by simp [ringC, h]
def ifI (b : Bool) (x : Int) : Int := if b = true then x else 0
def ifB (b : Bool) (x : Bool) : Bool := b && x
theorem ring_facts {ps : List (Int × Int)} (h : ringB ps = true) : 0 < ps.length ∧ ps.length ≤ 12 ∧ oks ps = true := by
  have := ringB_iff.1 h
  exact ⟨by have := this.1; omega, this.2.1, this.2.2.1⟩
def areaA (ps : List (Int × Int)) : Int := ((areaZ ps).natAbs : Int)
theorem areaA_bd {ps : List (Int × Int)} (h : ringB ps = true) : 0 ≤ areaA ps ∧ areaA ps ≤ 24000000 ∧ -24000000 ≤ areaZ ps ∧ areaZ ps ≤ 24000000 := by
  obtain ⟨h0, h1, h2⟩ := ring_facts h
  have := areaTo_bd h2 ps.length
  unfold areaA areaZ
  omega
theorem borderZ_bd {ps : List (Int × Int)} (h : ringB ps = true) : 0 ≤ borderZ ps ∧ borderZ ps ≤ 48000 := by
  obtain ⟨h0, h1, h2⟩ := ring_facts h
  have := borderTo_bd h2 ps.length
  unfold borderZ
  omega
def insideZ (ps : List (Int × Int)) : Int := wrap64 ((areaA ps - borderZ ps).tdiv 2 + 1)
/-- all turns have the sign of the first -/
def ConvP (ps : List (Int × Int)) : Prop := ∀ k : Nat, k < ps.length → sgn (turnI ps k) = sgn (turnI ps ((0 : Nat) : Int))
open Classical in
noncomputable def convB (ps : List (Int × Int)) : Bool := decide (ConvP ps)

theorem convB_iff {ps : List (Int × Int)} : convB ps = true ↔ ConvP ps := by simp [convB]
theorem ConvP_no {ps : List (Int × Int)} {k : Nat} (hk : k < ps.length) (h : (sgn (turnI ps k) != sgn (turnI ps ((0 : Nat) : Int))) = true) : false = convB ps := by
  refine (Bool.eq_false_iff.2 fun hc => ?_).symm
  rw [convB_iff.1 hc k hk] at h
  simp at h
theorem ConvP_succ {ps : List (Int × Int)} {k : Nat} (hc : ∀ j : Nat, j < k → sgn (turnI ps j) = sgn (turnI ps ((0 : Nat) : Int))) (h : (sgn (turnI ps k) != sgn (turnI ps ((0 : Nat) : Int))) = false) : ∀ j : Nat, j < k + 1 → sgn (turnI ps j) = sgn (turnI ps ((0 : Nat) : Int)) := fun j hj => by
  rcases Nat.lt_or_ge j k with h1 | h1
  · exact hc j h1
  · obtain rfl : j = k := by omega
    simpa using h
theorem ConvP_yes {ps : List (Int × Int)} (hc : ∀ j : Nat, j < ps.length → sgn (turnI ps j) = sgn (turnI ps ((0 : Nat) : Int))) : true = convB ps := by
  exact (convB_iff.2 hc).symm
/-- some corner among the first k turns to the left; some one does not -/
def Lefts (ps : List (Int × Int)) (k : Nat) (l r : Bool) : Prop := (l = true ↔ ∃ j : Nat, j < k ∧ 0 < turnI ps j) ∧ (r = true ↔ ∃ j : Nat, j < k ∧ ¬ 0 < turnI ps j)
theorem Lefts.left {ps : List (Int × Int)} {k : Nat} {l r : Bool} (h : Lefts ps k l r) (ht : 0 < turnI ps k) : Lefts ps (k + 1) true r := by
  refine ⟨⟨fun _ => ⟨k, by omega, ht⟩, fun _ => rfl⟩, h.2.trans ⟨fun ⟨j, hj, e⟩ => ⟨j, by omega, e⟩, fun ⟨j, hj, e⟩ => ⟨j, ?_, e⟩⟩⟩
  rcases Nat.lt_or_ge j k with h1 | h1
  · exact h1
  · exact absurd (by rw [show j = k by omega]; exact ht) e
theorem Lefts.right {ps : List (Int × Int)} {k : Nat} {l r : Bool} (h : Lefts ps k l r) (ht : ¬ 0 < turnI ps k) : Lefts ps (k + 1) l true := by
  refine ⟨h.1.trans ⟨fun ⟨j, hj, e⟩ => ⟨j, by omega, e⟩, fun ⟨j, hj, e⟩ => ⟨j, ?_, e⟩⟩, ⟨fun _ => ⟨k, by omega, ht⟩, fun _ => rfl⟩⟩
  rcases Nat.lt_or_ge j k with h1 | h1
  · exact h1
  · exact absurd e (by rw [show j = k by omega]; exact ht)
theorem Lefts.conv {ps : List (Int × Int)} {l r : Bool} (h : Lefts ps ps.length l r) (hr : ringB ps = true) : (l != r) = convB ps := by
  have hp := ringB_iff.1 hr
  have ht : ∀ i : Nat, i < ps.length → turnI ps i ≠ 0 := hp.2.2.2.1
  have h0 : 0 < ps.length := (ring_facts hr).1
  have hz := ht 0 h0
  rw [Bool.eq_iff_iff]
  rw [convB_iff, bne_iff_ne]
  constructor
  · intro hne k hk
    have hk0 := ht k hk
    rcases Int.lt_trichotomy (turnI ps k) 0 with a | a | a
    · rcases Int.lt_trichotomy (turnI ps ((0 : Nat) : Int)) 0 with b | b | b
      · unfold sgn; omega
      · exact absurd b hz
      · exact absurd ((h.1.2 ⟨0, h0, b⟩).trans (h.2.2 ⟨k, hk, by omega⟩).symm) hne
    · exact absurd a hk0
    · rcases Int.lt_trichotomy (turnI ps ((0 : Nat) : Int)) 0 with b | b | b
      · exact absurd ((h.1.2 ⟨k, hk, a⟩).trans (h.2.2 ⟨0, h0, by omega⟩).symm) hne
      · exact absurd b hz
      · unfold sgn; omega
  · intro hc hlr
    rcases Int.lt_trichotomy (turnI ps ((0 : Nat) : Int)) 0 with b | b | b
    · have hrt : r = true := h.2.2 ⟨0, h0, by omega⟩
      rw [hrt] at hlr
      obtain ⟨j, hj, e⟩ := h.1.1 hlr
      have := hc j hj
      unfold sgn at this
      omega
    · exact absurd b hz
    · have hlt : l = true := h.1.2 ⟨0, h0, b⟩
      rw [hlt] at hlr
      obtain ⟨j, hj, e⟩ := h.2.1 hlr.symm
      have := hc j hj
      have := ht j hj
      unfold sgn at *
      omega


end Go.Proofs.YtjjhhclaapifbaaDoor
