/- Contracts of the laws over lists of texts, walked over the translation. -/
import Derived.Test.YtjjhhclaapifbaaDoorTW
import Derived.Test.YtjjhhclaapifbaaDoorTB
import Derived.Deep.RegionHeld3
import Derived.Deep.DeepCutAuto
import Derived.RegionTactic
import Derived.BigRegion
import Derived.WalkLawsBesides
import Derived.WalkSpells
import Derived.Lib.MinMax
import Derived.Outline
namespace Go.Proofs.YtjjhhclaapifbaaDoor
open Go.RowKit
attribute [local go_sem] ExtOf.cell ExtOf.frozen

theorem enters_isSome {P : Program} {f : FuncId} {fn : Func} (hf : P.funcs[f]? = some fn) (hname : (fn.name == "runtime.NumGoroutine") = false) (hb : fn.body.isSome = true) (args : Array Value) (w : World) : (callFunc f args).run P w = .ok (.enter f args) w := by
  have h1 : fn.name ≠ "runtime.NumGoroutine" := by simpa using hname
  obtain ⟨c, hc⟩ := Option.isSome_iff_exists.1 hb
  simp [callFunc, hf, h1, hc, mark]
theorem upTo_succ {P : Nat → Prop} {k : Nat} (h : ∀ j, j < k → P j) (hk : P k) : ∀ j, j < k + 1 → P j := fun j hj => by
  rcases Nat.lt_or_ge j k with e | e
  · exact h j e
  · have : j = k := by omega
    exact this ▸ hk
theorem getD_small {α : Type} {L : List (List α)} {m : Nat} (h : ∀ i, i < L.length → (L.getD i []).length ≤ m) : ∀ i, (L.getD i []).length ≤ m := fun i => by
  rcases Nat.lt_or_ge i L.length with hi | hi
  · exact h i hi
  · rw [List.getD_eq_getElem?_getD, List.getElem?_eq_none hi]; simp
/-- what is known of a size that was reckoned over texts -/
def SzS (L : List (List UInt8)) (z : Int) : Prop := z ≤ 1048576 ∧ (z = -1 ∨ (0 ≤ z ∧ L.length ≤ 1048576 ∧ ∀ i, (L.getD i []).length ≤ 1048576))
theorem Filled.step1 {α : Type} {enc : α → List Value} {xs : List α} {k : Nat} {cs : Array Value} {x : α} {u : Value} (hk : ∀ x, (enc x).length = 1) (h : Filled 1 enc xs k cs) (hx : xs[k]? = some x) (he : enc x = [u]) :
    Filled 1 enc xs (k + 1) (cs.setIfInBounds k u) := by
  have hl : k < xs.length := (List.getElem?_eq_some_iff.1 hx).1
  refine ⟨by simpa using h.1, fun j hj => ?_⟩
  have h0 := flatMap_at hk xs k x 0 u hx (by simp [he])
  rw [Nat.mul_one, Nat.add_zero] at h0
  have hs := h.1
  by_cases e1 : j = k
  · subst e1; rw [Array.getElem?_setIfInBounds_self_of_lt (by omega), h0]
  · rw [Array.getElem?_setIfInBounds_ne (by omega)]
    exact h.2 j (by omega)
set_option maxHeartbeats 1600000 in
theorem l_eqS (A A' : Option Addr) (n c c' : Nat) (L : List (List UInt8)) (w : World) (h : SlAt w 1 encS A L) (h' : SlAt w 1 encS A' L) (hn : n = L.length) (hl : n ≤ 1048576) :
    Calls Tryd.prog 9 #[.slice A n c, .slice A' n c'] w fun e w' => e = .returned (.bool true) ∧ Ext w w' := by
  have hn1 : (((n : Nat) : Int) != (n : Int)) = false := by simp
  have HN := Lib.hid hn
  clear hn
  go_enter Tryd.func9, Tryd.ntmps9
  go_wp2
  go_loopw [5] (fun i wr => ∃ k : Nat, k ≤ n ∧ i = .int .i64 k ∧ Ext w wr) (fun i _ => n - (intOf i).toNat)
  case atStart => exact ⟨0, Nat.zero_le _, rfl, by (repeat (first | with_reducible exact Ext.refl _ | with_reducible assumption | ((with_reducible apply Src.ext); with_reducible assumption) | with_reducible refine Ext.alloc ?_ _ | with_reducible refine Ext.drew ?_ | with_reducible refine Ext.drewN ?_ _ | ((with_reducible refine Ext.setCell' ?_ ?_ _); solve | omega | simp | (simp; omega)) | (with_reducible refine Ext.trans ?_ (by with_reducible assumption))))⟩
  case round =>
    obtain ⟨k, hk, rfl, hx⟩ := hrel
    by_cases hlt : k < n
    · obtain ⟨b, off, rfl, hb, d0⟩ := (h.ext hx).st (k := k) (by rw [← HN.out]; exact hlt)
      obtain ⟨b', off', rfl, hb', d1⟩ := (h'.ext hx).st (k := k) (by rw [← HN.out]; exact hlt)
      generalize tx (L.getD k []) = x at d0 d1
      have hxx : (x.toList == x.toList) = true := by simp
      go_wp2
      (refine wp_region_ext (by kernel_rfl) (by kernel_rfl) ?_; (repeat (go_big_quiet_step (fail))); refine wpQuiet_nil ?_; intro wq hxwq; obtain ⟨hcwq, hfwq⟩ := hxwq.rules; have hswq := hxwq.size; (try simp at hswq))
      go_wp2
      go_roundw
      case rel => exact ⟨k + 1, by omega, by go_num, by (repeat (first | with_reducible exact Ext.refl _ | with_reducible assumption | ((with_reducible apply Src.ext); with_reducible assumption) | with_reducible refine Ext.alloc ?_ _ | with_reducible refine Ext.drew ?_ | with_reducible refine Ext.drewN ?_ _ | ((with_reducible refine Ext.setCell' ?_ ?_ _); solve | omega | simp | (simp; omega)) | (with_reducible refine Ext.trans ?_ (by with_reducible assumption))))⟩
      case measure => simp [intOf]; omega
    · go_wp2
      go_ret
      exact ⟨rfl, by (repeat (first | with_reducible exact Ext.refl _ | with_reducible assumption | ((with_reducible apply Src.ext); with_reducible assumption) | with_reducible refine Ext.alloc ?_ _ | with_reducible refine Ext.drew ?_ | with_reducible refine Ext.drewN ?_ _ | ((with_reducible refine Ext.setCell' ?_ ?_ _); solve | omega | simp | (simp; omega)) | (with_reducible refine Ext.trans ?_ (by with_reducible assumption))))⟩
end Go.Proofs.YtjjhhclaapifbaaDoor
