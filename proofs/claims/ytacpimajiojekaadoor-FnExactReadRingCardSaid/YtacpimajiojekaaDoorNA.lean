/- Contracts of the what the library does to lists of points: copies, turned round, joined, walked over the translation. -/
import Derived.Test.YtacpimajiojekaaDoorG
import Derived.Test.YtacpimajiojekaaDoorAQ
import Derived.Test.YtacpimajiojekaaDoorAP
import Derived.Lib.SliceRun
import Derived.Deep.RegionHeld3
import Derived.Deep.DeepCutAuto
import Derived.RegionTactic
import Derived.BigRegion
import Derived.WalkLawsBesides
import Derived.WalkSpells
import Derived.Lib.MinMax
import Derived.Outline
namespace Go.Proofs.YtacpimajiojekaaDoor
open Go.RowKit
attribute [local go_sem] ExtOf.cell ExtOf.frozen

theorem elP : ElT Tryd.prog 32 26 2 16 := ElT.mk' Tryd.underlying32 info_pt rfl (by omega)
theorem one_encP : ∀ p, ∀ u ∈ encP p, u.oneCell' = true := by
  intro p u hu
  simp [encP] at hu
  rcases hu with rfl | rfl <;> rfl
abbrev OwP (w : World) (base : Nat) (v : Value) (ps : List (Int × Int)) : Prop := Own encP 2 26 w base v ps

/-- the list with its first k and its last k elements exchanged, turned round -/
def revAt (ps : List (Int × Int)) (k j : Nat) : Int × Int := ps.getD (if j < k ∨ ps.length ≤ j + k then ps.length - 1 - j else j) (0, 0)
def RevC (ps : List (Int × Int)) (k : Nat) (sz : Nat) (cs : Array Value) : Prop := cs.size = sz ∧ ∀ j, j < ps.length → cs[j * 2]? = some (.int .i64 (revAt ps k j).1) ∧ cs[j * 2 + 1]? = some (.int .i64 (revAt ps k j).2)
theorem RevC.start {ps : List (Int × Int)} {cs : Array Value} (h : cs.toList.take (ps.length * 2) = ps.flatMap encP) : RevC ps 0 cs.size cs := by
  refine ⟨rfl, fun j hj => ?_⟩
  have hg : ps[j]? = some (ps.getD j (0, 0)) := by simp [List.getD, hj]
  have h0 := flatMap_at (enc := encP) (sz := 2) len_encP ps j _ 0 _ hg rfl
  have h1 := flatMap_at (enc := encP) (sz := 2) len_encP ps j _ 1 _ hg rfl
  rw [← h, List.getElem?_take_of_lt (by omega), Array.getElem?_toList] at h0 h1
  have e : revAt ps 0 j = ps.getD j (0, 0) := by unfold revAt; rw [if_neg (by omega)]
  rw [e]
  exact ⟨h0, h1⟩
theorem RevC.step {ps : List (Int × Int)} {k sz : Nat} {cs : Array Value} (h : RevC ps k sz cs) (hk : 2 * k + 1 < ps.length) (hs : ps.length * 2 ≤ sz) :
    RevC ps (k + 1) sz ((((cs.setIfInBounds (k * 2) (.int .i64 (revAt ps k (ps.length - 1 - k)).1)).setIfInBounds (k * 2 + 1) (.int .i64 (revAt ps k (ps.length - 1 - k)).2)).setIfInBounds ((ps.length - 1 - k) * 2) (.int .i64 (revAt ps k k).1)).setIfInBounds ((ps.length - 1 - k) * 2 + 1) (.int .i64 (revAt ps k k).2)) := by
  have hsz := h.1
  refine ⟨by simpa using h.1, fun j hj => ?_⟩
  have hj0 := h.2 j hj
  by_cases e1 : j = k
  · subst e1
    have : revAt ps (j + 1) j = revAt ps j (ps.length - 1 - j) := by unfold revAt; rw [if_pos (by omega), if_neg (by omega)]
    rw [this]
    constructor
    · rw [Array.getElem?_setIfInBounds_ne (by omega), Array.getElem?_setIfInBounds_ne (by omega), Array.getElem?_setIfInBounds_ne (by omega), Array.getElem?_setIfInBounds_self_of_lt (by omega)]
    · rw [Array.getElem?_setIfInBounds_ne (by omega), Array.getElem?_setIfInBounds_ne (by omega), Array.getElem?_setIfInBounds_self_of_lt (by simp; omega)]
  · by_cases e2 : j = ps.length - 1 - k
    · have : revAt ps (k + 1) j = revAt ps k k := by unfold revAt; rw [if_pos (by omega), if_neg (by omega), e2, show ps.length - 1 - (ps.length - 1 - k) = k by omega]
      rw [this, e2]
      constructor
      · rw [Array.getElem?_setIfInBounds_ne (by omega), Array.getElem?_setIfInBounds_self_of_lt (by simp; omega)]
      · rw [Array.getElem?_setIfInBounds_self_of_lt (by simp; omega)]
    · have : revAt ps (k + 1) j = revAt ps k j := by
        unfold revAt
        by_cases c : j < k ∨ ps.length ≤ j + k
        · rw [if_pos c, if_pos (by omega)]
        · rw [if_neg c, if_neg (by omega)]
      rw [this]
      constructor
      · rw [Array.getElem?_setIfInBounds_ne (by omega), Array.getElem?_setIfInBounds_ne (by omega), Array.getElem?_setIfInBounds_ne (by omega), Array.getElem?_setIfInBounds_ne (by omega)]; exact hj0.1
      · rw [Array.getElem?_setIfInBounds_ne (by omega), Array.getElem?_setIfInBounds_ne (by omega), Array.getElem?_setIfInBounds_ne (by omega), Array.getElem?_setIfInBounds_ne (by omega)]; exact hj0.2
/-- cells that read as a list -/
theorem take_cells {ps : List (Int × Int)} {cs : Array Value} (hs : ps.length * 2 ≤ cs.size) (h : ∀ j, j < ps.length → cs[j * 2]? = some (.int .i64 (ps.getD j (0, 0)).1) ∧ cs[j * 2 + 1]? = some (.int .i64 (ps.getD j (0, 0)).2)) : cs.toList.take (ps.length * 2) = ps.flatMap encP := by
  apply List.ext_getElem?
  intro i
  rcases Nat.lt_or_ge i (ps.length * 2) with hi | hi
  · rw [List.getElem?_take_of_lt hi, Array.getElem?_toList]
    have hq : i / 2 < ps.length := by omega
    have hg : ps[i / 2]? = some (ps.getD (i / 2) (0, 0)) := by simp [List.getD, hq]
    have hc := h (i / 2) hq
    rcases Nat.mod_two_eq_zero_or_one i with e | e
    · have h0 := flatMap_at (enc := encP) (sz := 2) len_encP ps (i / 2) _ 0 _ hg rfl
      rw [show i / 2 * 2 + 0 = i by omega] at h0
      rw [h0, ← hc.1, show i / 2 * 2 = i by omega]
    · have h0 := flatMap_at (enc := encP) (sz := 2) len_encP ps (i / 2) _ 1 _ hg rfl
      rw [show i / 2 * 2 + 1 = i by omega] at h0
      rw [h0, ← hc.2, show i / 2 * 2 + 1 = i by omega]
  · have hle : (cs.toList.take (ps.length * 2)).length ≤ i := by simp; omega
    rw [List.getElem?_eq_none hle, List.getElem?_eq_none (by rw [flatMap_len len_encP]; exact hi)]
theorem RevC.done {ps : List (Int × Int)} {k sz : Nat} {cs : Array Value} (h : RevC ps k sz cs) (hk : ps.length ≤ 2 * k + 1) (hk' : 2 * k ≤ ps.length) (hs : ps.length * 2 ≤ sz) : cs.toList.take (ps.length * 2) = ps.reverse.flatMap encP := by
  have := take_cells (ps := ps.reverse) (cs := cs) (by simp; have := h.1; omega) (fun j hj => by
    have hj' : j < ps.length := by simpa using hj
    have e : ps.reverse.getD j (0, 0) = revAt ps k j := by
      unfold revAt
      rw [List.getD_eq_getElem?_getD, List.getElem?_reverse hj', ← List.getD_eq_getElem?_getD]
      split
      · rfl
      · rw [show ps.length - 1 - j = j by omega]
    rw [e]
    exact h.2 j hj')
  rw [List.length_reverse] at this
  exact this
def cc2 (a b : Nat) (k : Nat) : Int := if k = 0 then 0 else if k = 1 then a else (a : Int) + b
def cl2 (p q : List (Int × Int)) (k : Nat) : List (Int × Int) := if k = 0 then [] else if k = 1 then p else p ++ q

end Go.Proofs.YtacpimajiojekaaDoor
