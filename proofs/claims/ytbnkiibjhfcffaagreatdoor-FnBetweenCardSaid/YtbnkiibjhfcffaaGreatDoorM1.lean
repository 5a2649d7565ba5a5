/- Contracts of marks in lists of texts, walked over the translation. Words for memory turned between two bounds. -/
import Derived.Test.YtbnkiibjhfcffaaGreatDoorGT
import Derived.Test.YtbnkiibjhfcffaaGreatDoorG0
import Derived.Deep.RegionHeld3
import Derived.Deep.DeepCutAuto
import Derived.RegionTactic
import Derived.BigRegion
import Derived.WalkLawsBesides
import Derived.WalkSpells
import Derived.Lib.MinMax
import Derived.Outline
namespace Go.Proofs.YtbnkiibjhfcffaaGreatDoor
open Go.RowKit
attribute [local go_sem] ExtOf.cell ExtOf.frozen

/-- the text of mark k -/
def mkL (k : Nat) : List UInt8 := 109 :: Lib.decDigits k
/-- marks in a list of texts -/
def marksS (k n : Nat) : List (List UInt8) := (List.range n).map fun i => mkL (k + i)
theorem marksS_len (k n : Nat) : (marksS k n).length = n := by simp [marksS]
def MarkS (k j sz : Nat) (cs : Array Value) : Prop := cs.size = sz ∧ ∀ q, q < j → cs[q]? = some (.string (tx (mkL (k + q))))
theorem MarkS.step {k j sz : Nat} {cs : Array Value} (h : MarkS k j sz cs) (hs : j < sz) : MarkS k (j + 1) sz (cs.setIfInBounds j (.string (tx (mkL (k + j))))) := by
  have hz := h.1
  refine ⟨by simpa using h.1, fun q hq => ?_⟩
  by_cases e : q = j
  · subst e
    rw [Array.getElem?_setIfInBounds_self_of_lt (by omega)]
  · rw [Array.getElem?_setIfInBounds_ne (by omega)]
    exact h.2 q (by omega)
theorem MarkS.done {k n sz : Nat} {cs : Array Value} (h : MarkS k n sz cs) (hs : n ≤ sz) : cs.toList.take (n * 1) = (marksS k n).flatMap encS := by
  have hz := h.1
  rw [Nat.mul_one]
  apply List.ext_getElem?
  intro i
  rcases Nat.lt_or_ge i n with hi | hi
  · rw [List.getElem?_take_of_lt hi, Array.getElem?_toList, h.2 i hi]
    have hg : (marksS k n)[i]? = some (mkL (k + i)) := by simp [marksS, hi]
    have h0 := flatMap_at (enc := encS) (sz := 1) len_encS (marksS k n) i _ 0 _ hg rfl
    rw [Nat.mul_one, Nat.add_zero] at h0
    rw [h0]
  · have hle : (cs.toList.take n).length ≤ i := by simp; omega
    rw [List.getElem?_eq_none hle, List.getElem?_eq_none (by rw [flatMap_len len_encS, marksS_len]; omega)]
end Go.Proofs.YtbnkiibjhfcffaaGreatDoor

namespace Go.Proofs.YtbnkiibjhfcffaaGreatDoor
open Go.RowKit
attribute [local go_sem] ExtOf.cell ExtOf.frozen

/-- w' is w with new blocks behind; of the old ones only those from lo to below hi may have turned -/
structure Btw (lo hi : Nat) (w w' : World) : Prop where
  os : w'.os = w.os
  tape : w'.tape = w.tape
  output : w'.output = w.output
  size : w.heap.size ≤ w'.heap.size
  block : ∀ k, k < w.heap.size → (k < lo ∨ hi ≤ k) → w'.heap[k]? = w.heap[k]?
theorem Btw.refl (lo hi : Nat) (w : World) : Btw lo hi w w := ⟨rfl, rfl, rfl, Nat.le_refl _, fun _ _ _ => rfl⟩
theorem Btw.trans {lo hi : Nat} {a b c : World} (h : Btw lo hi a b) (k : Btw lo hi b c) : Btw lo hi a c :=
  ⟨k.os.trans h.os, k.tape.trans h.tape, k.output.trans h.output, Nat.le_trans h.size k.size, fun i hi hc => (k.block i (Nat.lt_of_lt_of_le hi h.size) hc).trans (h.block i hi hc)⟩
theorem Btw.of {lo hi : Nat} {a b : World} (h : Ext a b) : Btw lo hi a b := ⟨h.os, h.tape, h.output, h.size, fun k hk _ => h.block k hk⟩
theorem Btw.on {lo hi : Nat} {a b c : World} (h : Btw lo hi a b) (k : Ext b c) : Btw lo hi a c := h.trans (.of k)
theorem Btw.set_ {lo hi g : Nat} {a w : World} (h : Btw lo hi a w) (h1 : lo ≤ g) (h2 : g < hi) (i : Nat) (u : Value) : Btw lo hi a (w.setCell ⟨g, i, none⟩ u) :=
  h.trans ⟨rfl, rfl, rfl, by simp [World.setCell], fun k _ hk => Below.heap_setCell _ _ _ _ (by show k ≠ g; omega)⟩
theorem Btw.grown {lo hi g : Nat} {a w w' : World} (h : Btw lo hi a w) (hg : w.grownBy w' (some g)) (h1 : lo ≤ g) (h2 : g < hi) : Btw lo hi a w' :=
  ⟨hg.os.trans h.os, hg.tape.trans h.tape, hg.output.trans h.output, Nat.le_trans h.size hg.size, fun k hk hc => (hg.block k (Nat.lt_of_lt_of_le hk h.size) (fun e => by injection e with e; omega)).trans (h.block k hk hc)⟩
theorem Btw.ext {lo hi : Nat} {a w w' : World} (h : Btw lo hi w w') (hx : Ext a w) (hl : a.heap.size ≤ lo) : Ext a w' :=
  ⟨h.os.trans hx.os, h.tape.trans hx.tape, h.output.trans hx.output, Nat.le_trans hx.size h.size, fun k hk => (h.block k (Nat.lt_of_lt_of_le hk hx.size) (.inl (by omega))).trans (hx.block k hk)⟩
end Go.Proofs.YtbnkiibjhfcffaaGreatDoor
