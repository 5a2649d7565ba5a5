/- Contracts of the laws over lists of texts, walked over the translation. -/
import Derived.Test.YtncccigbiefnkaaGreatDoorGT
import Derived.Deep.RegionHeld3
import Derived.Deep.DeepCutAuto
import Derived.RegionTactic
import Derived.BigRegion
import Derived.WalkLawsBesides
import Derived.WalkSpells
import Derived.Lib.MinMax
import Derived.Outline
namespace Go.Proofs.YtncccigbiefnkaaGreatDoor
open Go.RowKit
attribute [local go_sem] ExtOf.cell ExtOf.frozen

theorem enters_isSome {P : Program} {f : FuncId} {fn : Func} (hf : P.funcs[f]? = some fn) (hname : (fn.name == "runtime.NumGoroutine") = false) (hb : fn.body.isSome = true) (args : Array Value) (w : World) : (callFunc f args).run P w = .ok (.enter f args) w := by
  have h1 : fn.name ≠ "runtime.NumGoroutine" := by simpa using hname
  obtain ⟨c, hc⟩ := Option.isSome_iff_exists.1 hb
  simp [callFunc, hf, h1, hc, mark]
theorem upTo_succ {P : Nat → Prop} {k : Nat} (h : ∀ j, j < k → P j) (hk : P k) : ∀ j, j < k + 1 → P j := fun j hj => by
  rcases Nat.lt_or_ge j k with e | e
  · exact h j e
  · have : j = k := by omega
    exact this ▸ hk
theorem getD_small {α : Type} {L : List (List α)} {m : Nat} (h : ∀ i, i < L.length → (L.getD i []).length ≤ m) : ∀ i, (L.getD i []).length ≤ m := fun i => by
  rcases Nat.lt_or_ge i L.length with hi | hi
  · exact h i hi
  · rw [List.getD_eq_getElem?_getD, List.getElem?_eq_none hi]; simp
/-- what is known of a size that was reckoned over texts -/
def SzS (L : List (List UInt8)) (z : Int) : Prop := z ≤ 1048576 ∧ (z = -1 ∨ (0 ≤ z ∧ L.length ≤ 1048576 ∧ ∀ i, (L.getD i []).length ≤ 1048576))
theorem Filled.step1 {α : Type} {enc : α → List Value} {xs : List α} {k : Nat} {cs : Array Value} {x : α} {u : Value} (hk : ∀ x, (enc x).length = 1) (h : Filled 1 enc xs k cs) (hx : xs[k]? = some x) (he : enc x = [u]) :
    Filled 1 enc xs (k + 1) (cs.setIfInBounds k u) := by
  have hl : k < xs.length := (List.getElem?_eq_some_iff.1 hx).1
  refine ⟨by simpa using h.1, fun j hj => ?_⟩
  have h0 := flatMap_at hk xs k x 0 u hx (by simp [he])
  rw [Nat.mul_one, Nat.add_zero] at h0
  have hs := h.1
  by_cases e1 : j = k
  · subst e1; rw [Array.getElem?_setIfInBounds_self_of_lt (by omega), h0]
  · rw [Array.getElem?_setIfInBounds_ne (by omega)]
    exact h.2 j (by omega)

end Go.Proofs.YtncccigbiefnkaaGreatDoor
