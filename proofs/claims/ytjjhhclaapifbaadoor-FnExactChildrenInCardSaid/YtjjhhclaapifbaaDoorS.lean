/- Contracts of the rings: the test of a ring, walked over the translation. -/
import Derived.Test.YtjjhhclaapifbaaDoorR
import Derived.RegionTactic
import Derived.BigRegion
import Derived.WalkLawsBesides
import Derived.WalkSpells
import Derived.Lib.MinMax
import Derived.Outline
namespace Go.Proofs.YtjjhhclaapifbaaDoor
open Go.RowKit
attribute [local go_sem] ExtOf.cell ExtOf.frozen





theorem SlAt.take {α : Type} {w : World} {sz : Nat} {enc : α → List Value} {A : Option Addr} {xs : List α} (h : SlAt w sz enc A xs) (k : Nat) : SlAt w sz enc A (xs.take k) := fun hn => by
  obtain ⟨b, off, e, hb, hc⟩ := h (by rw [List.length_take] at hn; omega)
  refine ⟨b, off, e, hb, fun i x hi j v hj => hc i x ?_ j v hj⟩
  rw [List.getElem?_take] at hi
  split at hi
  · exact hi
  · cases hi
theorem as_bool {P : Program} {f : FuncId} {args : Array Value} {w : World} {b b' : Bool} (h : Calls P f args w fun e w' => e = .returned (.bool b) ∧ Ext w w') (e : b = b') : Calls P f args w fun e w' => e = .returned (.bool b') ∧ Ext w w' := e ▸ h
theorem as_int {P : Program} {f : FuncId} {args : Array Value} {w : World} {k : IntKind} {b b' : Int} (h : Calls P f args w fun e w' => e = .returned (.int k b) ∧ Ext w w') (e : b = b') : Calls P f args w fun e w' => e = .returned (.int k b') ∧ Ext w w' := e ▸ h
/-- what makes a ring valid -/
def RingP (ps : List (Int × Int)) : Prop :=
  3 ≤ ps.length ∧ ps.length ≤ 12 ∧ oks ps = true ∧ (∀ i : Nat, i < ps.length → turnI ps i ≠ 0) ∧ (∀ i k : Nat, k < i → i < ps.length → ¬ (ptx ps i = ptx ps k ∧ ptz ps i = ptz ps k)) ∧ (∀ i k : Nat, i < k → k < ps.length → apB ps i k = true)
open Classical in
noncomputable def ringB (ps : List (Int × Int)) : Bool := decide (RingP ps)
theorem ringB_iff {ps : List (Int × Int)} : ringB ps = true ↔ RingP ps := by simp [ringB]
theorem ringB_no {ps : List (Int × Int)} (h : ¬ RingP ps) : false = ringB ps := by simp [ringB, h]
theorem ringB_yes {ps : List (Int × Int)} (h : RingP ps) : true = ringB ps := by simp [ringB, h]
theorem inB_len {n : Nat} (h : inB n 3 12 = true) : 3 ≤ n ∧ n ≤ 12 := by simp [inB] at h; omega
theorem hasP_take {ps : List (Int × Int)} {k : Nat} (hk : k < ps.length) : hasP (ps.take k) (ptx ps k) (ptz ps k) = true ↔ ∃ j, j < k ∧ ptx ps k = ptx ps j ∧ ptz ps k = ptz ps j := by
  rw [hasP_iff, List.mem_take_iff_getElem]
  constructor
  · rintro ⟨j, hj, e⟩
    have hj1 : j < k := by omega
    have hj2 : j < ps.length := by omega
    refine ⟨j, hj1, ?_, ?_⟩
    · rw [ptx_lt (k := j) hj2, List.getD_eq_getElem?_getD, List.getElem?_eq_getElem hj2, Option.getD_some, e]
    · rw [ptz_lt (k := j) hj2, List.getD_eq_getElem?_getD, List.getElem?_eq_getElem hj2, Option.getD_some, e]
  · rintro ⟨j, hj, e1, e2⟩
    have hj2 : j < ps.length := by omega
    refine ⟨j, by omega, ?_⟩
    rw [e1, e2, ptx_lt hj2, ptz_lt hj2]
    simp [List.getD, hj2]
/-- the first k corners are as they must be -/
def Turned (ps : List (Int × Int)) (k : Nat) : Prop := (∀ i : Nat, i < k → turnI ps i ≠ 0) ∧ (∀ i j : Nat, j < i → i < k → ¬ (ptx ps i = ptx ps j ∧ ptz ps i = ptz ps j))
def Apart (ps : List (Int × Int)) (k : Nat) : Prop := ∀ i j : Nat, i < k → i < j → j < ps.length → apB ps i j = true
def Apart1 (ps : List (Int × Int)) (i m : Nat) : Prop := ∀ j : Nat, i < j → j < m → apB ps i j = true
theorem Turned.succ {ps : List (Int × Int)} {k : Nat} (h : Turned ps k) (hk : k < ps.length) (ht : turnI ps k ≠ 0) (hh : hasP (ps.take k) (ptx ps k) (ptz ps k) = false) : Turned ps (k + 1) := by
  refine ⟨fun i hi => ?_, fun i j hj hi e => ?_⟩
  · rcases Nat.lt_or_ge i k with h1 | h1
    · exact h.1 i h1
    · rw [show i = k by omega]; exact ht
  · rcases Nat.lt_or_ge i k with h1 | h1
    · exact h.2 i j hj h1 e
    · rw [show i = k by omega] at e hj
      have := (hasP_take hk).2 ⟨j, hj, e.1, e.2⟩
      rw [hh] at this
      cases this
theorem Apart.succ {ps : List (Int × Int)} {k m : Nat} (h : Apart ps k) (h1 : Apart1 ps k m) (hm : ps.length ≤ m) : Apart ps (k + 1) := fun i j hi hij hj => by
  rcases Nat.lt_or_ge i k with h2 | h2
  · exact h i j h2 hij hj
  · obtain rfl : i = k := by omega
    exact h1 j hij (by omega)
theorem Apart1.succ {ps : List (Int × Int)} {i m : Nat} (h : Apart1 ps i m) (h1 : apB ps i m = true) : Apart1 ps i (m + 1) := fun j hij hj => by
  rcases Nat.lt_or_ge j m with h2 | h2
  · exact h j hij h2
  · obtain rfl : j = m := by omega
    exact h1

end Go.Proofs.YtjjhhclaapifbaaDoor
