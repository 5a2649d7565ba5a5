/- Contracts of the laws on edges, walked over the translation. -/
import Derived.Test.YtdbheipjbjcikaaGreatDoorEA
import Derived.Deep.DeepCutAuto
import Derived.RegionTactic
import Derived.BigRegion
import Derived.WalkLawsBesides
import Derived.WalkSpells
import Derived.Lib.MinMax
import Derived.Outline
namespace Go.Proofs.YtdbheipjbjcikaaGreatDoor
open Go.RowKit
attribute [local go_sem] ExtOf.cell ExtOf.frozen

theorem SlAt.ed {w : World} {A : Option Addr} {es : List Ed} (h : SlAt w 4 encE A es) {k : Nat} (hk : k < es.length) :
    ∃ b off a1 a2 a3 a4, A = some ⟨b, off, none⟩ ∧ b < w.heap.size ∧ es.getD k ((0, 0), (0, 0)) = ((a1, a2), (a3, a4)) ∧ w.cell? ⟨b, off + k * 4, none⟩ = some (.int .i64 a1) ∧ w.cell? ⟨b, off + k * 4 + 1, none⟩ = some (.int .i64 a2) ∧ w.cell? ⟨b, off + k * 4 + 2, none⟩ = some (.int .i64 a3) ∧ w.cell? ⟨b, off + k * 4 + 3, none⟩ = some (.int .i64 a4) := by
  obtain ⟨b, off, e, hb, hc⟩ := h (by omega)
  have hg : es[k]? = some (es.getD k ((0, 0), (0, 0))) := by simp [List.getD, hk]
  rcases he : es.getD k ((0, 0), (0, 0)) with ⟨⟨a1, a2⟩, ⟨a3, a4⟩⟩
  rw [he] at hg
  exact ⟨b, off, a1, a2, a3, a4, e, hb, rfl, by simpa using hc k _ hg 0 _ rfl, hc k _ hg 1 _ rfl, hc k _ hg 2 _ rfl, hc k _ hg 3 _ rfl⟩
theorem l_eqPt_self (x z : Int) (w : World) : Calls Tryz.prog 154 #[.agg #[.int .i64 x, .int .i64 z], .agg #[.int .i64 x, .int .i64 z]] w fun e w' => e = .returned (.bool true) ∧ Ext w w' := by
  have := l_eqPoint x z x z w
  rwa [show eqP x z x z = true by simp [eqP]] at this
/-- marks in a list of edges -/
def marksE (k : Int) (n : Nat) : List Ed := (List.range n).map fun i : Nat => ((k + 4 * (i : Int), k + 4 * (i : Int) + 1), (k + 4 * (i : Int) + 2, k + 4 * (i : Int) + 3))
theorem marksE_len (k : Int) (n : Nat) : (marksE k n).length = n := by simp [marksE]
theorem marksE_at (k : Int) {n i : Nat} (hi : i < n) : (marksE k n).getD i ((0, 0), (0, 0)) = ((k + 4 * (i : Int), k + 4 * (i : Int) + 1), (k + 4 * (i : Int) + 2, k + 4 * (i : Int) + 3)) := by simp [marksE, List.getD, hi]
def MarkE (k : Int) (j sz : Nat) (cs : Array Value) : Prop := cs.size = sz ∧ ∀ q, q < j → cs[q * 4]? = some (.int .i64 (k + 4 * (q : Int))) ∧ cs[q * 4 + 1]? = some (.int .i64 (k + 4 * (q : Int) + 1)) ∧ cs[q * 4 + 2]? = some (.int .i64 (k + 4 * (q : Int) + 2)) ∧ cs[q * 4 + 3]? = some (.int .i64 (k + 4 * (q : Int) + 3))
theorem MarkE.step {k : Int} {j sz : Nat} {cs : Array Value} (h : MarkE k j sz cs) (hs : j * 4 + 3 < sz) :
    MarkE k (j + 1) sz ((((cs.setIfInBounds (j * 4) (.int .i64 (k + 4 * (j : Int)))).setIfInBounds (j * 4 + 1) (.int .i64 (k + 4 * (j : Int) + 1))).setIfInBounds (j * 4 + 2) (.int .i64 (k + 4 * (j : Int) + 2))).setIfInBounds (j * 4 + 3) (.int .i64 (k + 4 * (j : Int) + 3))) := by
  have hz := h.1
  refine ⟨by simpa using h.1, fun q hq => ?_⟩
  by_cases e : q = j
  · subst e
    refine ⟨?_, ?_, ?_, ?_⟩
    · rw [Array.getElem?_setIfInBounds_ne (by omega), Array.getElem?_setIfInBounds_ne (by omega), Array.getElem?_setIfInBounds_ne (by omega), Array.getElem?_setIfInBounds_self_of_lt (by omega)]
    · rw [Array.getElem?_setIfInBounds_ne (by omega), Array.getElem?_setIfInBounds_ne (by omega), Array.getElem?_setIfInBounds_self_of_lt (by simp; omega)]
    · rw [Array.getElem?_setIfInBounds_ne (by omega), Array.getElem?_setIfInBounds_self_of_lt (by simp; omega)]
    · rw [Array.getElem?_setIfInBounds_self_of_lt (by simp; omega)]
  · have := h.2 q (by omega)
    refine ⟨?_, ?_, ?_, ?_⟩
    · rw [Array.getElem?_setIfInBounds_ne (by omega), Array.getElem?_setIfInBounds_ne (by omega), Array.getElem?_setIfInBounds_ne (by omega), Array.getElem?_setIfInBounds_ne (by omega)]; exact this.1
    · rw [Array.getElem?_setIfInBounds_ne (by omega), Array.getElem?_setIfInBounds_ne (by omega), Array.getElem?_setIfInBounds_ne (by omega), Array.getElem?_setIfInBounds_ne (by omega)]; exact this.2.1
    · rw [Array.getElem?_setIfInBounds_ne (by omega), Array.getElem?_setIfInBounds_ne (by omega), Array.getElem?_setIfInBounds_ne (by omega), Array.getElem?_setIfInBounds_ne (by omega)]; exact this.2.2.1
    · rw [Array.getElem?_setIfInBounds_ne (by omega), Array.getElem?_setIfInBounds_ne (by omega), Array.getElem?_setIfInBounds_ne (by omega), Array.getElem?_setIfInBounds_ne (by omega)]; exact this.2.2.2
theorem MarkE.done {k : Int} {n sz : Nat} {cs : Array Value} (h : MarkE k n sz cs) (hs : n * 4 ≤ sz) : cs.toList.take (n * 4) = (marksE k n).flatMap encE := by
  have hz := h.1
  apply List.ext_getElem?
  intro i
  rcases Nat.lt_or_ge i (n * 4) with hi | hi
  · rw [List.getElem?_take_of_lt hi, Array.getElem?_toList]
    have hq : i / 4 < n := by omega
    have hg : (marksE k n)[i / 4]? = some ((marksE k n).getD (i / 4) ((0, 0), (0, 0))) := by simp [List.getD, marksE_len, hq]
    rw [marksE_at k hq] at hg
    have hc := h.2 (i / 4) hq
    rcases (show i % 4 = 0 ∨ i % 4 = 1 ∨ i % 4 = 2 ∨ i % 4 = 3 by omega) with e | e | e | e
    · have h0 := flatMap_at (enc := encE) (sz := 4) len_encE (marksE k n) (i / 4) _ 0 _ hg rfl
      rw [show i / 4 * 4 + 0 = i by omega] at h0
      rw [h0, ← hc.1, show i / 4 * 4 = i by omega]
    · have h0 := flatMap_at (enc := encE) (sz := 4) len_encE (marksE k n) (i / 4) _ 1 _ hg rfl
      rw [show i / 4 * 4 + 1 = i by omega] at h0
      rw [h0, ← hc.2.1, show i / 4 * 4 + 1 = i by omega]
    · have h0 := flatMap_at (enc := encE) (sz := 4) len_encE (marksE k n) (i / 4) _ 2 _ hg rfl
      rw [show i / 4 * 4 + 2 = i by omega] at h0
      rw [h0, ← hc.2.2.1, show i / 4 * 4 + 2 = i by omega]
    · have h0 := flatMap_at (enc := encE) (sz := 4) len_encE (marksE k n) (i / 4) _ 3 _ hg rfl
      rw [show i / 4 * 4 + 3 = i by omega] at h0
      rw [h0, ← hc.2.2.2, show i / 4 * 4 + 3 = i by omega]
  · have hle : (cs.toList.take (n * 4)).length ≤ i := by simp; omega
    rw [List.getElem?_eq_none hle, List.getElem?_eq_none (by rw [flatMap_len len_encE, marksE_len]; exact hi)]

end Go.Proofs.YtdbheipjbjcikaaGreatDoor
