/- Spans, links and parents, as the program sees them. -/
import Derived.Test.YtabdffponmmhoaaGreatDoorZS
import Derived.Test.YtabdffponmmhoaaGreatDoorGW
import Derived.Deep.RegionHeld3
import Derived.Deep.DeepCutAuto
import Derived.RegionTactic
import Derived.BigRegion
import Derived.WalkLawsBesides
import Derived.WalkSpells
import Derived.Lib.MinMax
import Derived.Outline
namespace Go.Proofs.YtabdffponmmhoaaGreatDoor
open Go.RowKit
attribute [local go_sem] ExtOf.cell ExtOf.frozen

/-- a span that lies in another one -/
def lieB (a b c d : Int) : Bool := decide (c ≤ a) && decide (b ≤ d)
theorem blk_s2 {w : World} {g : Nat} {t : TypeId} {l m : List UInt8} (h : Blk w g t #[.string (tx l), .string (tx m)]) : SlAt w 1 encS (some ⟨g, 0, none⟩) [l, m] := h.sl rfl len_encS
theorem as_boolY {P : Program} {f : FuncId} {args : Array Value} {w : World} {b b' : Bool} (h : Calls P f args w fun e w' => e = .returned (.bool b) ∧ Ext w w') (e : b = b') : Calls P f args w fun e w' => e = .returned (.bool b') ∧ Ext w w' := e ▸ h
/-- the index of the first element with p, or -1 -/
def fstG {α : Type} (p : α → Bool) (xs : List α) : Int := match xs.findIdx? p with
  | some i => i
  | none => -1
theorem fstG_hit {α : Type} {d : α} {p : α → Bool} {xs : List α} {k : Nat} (hk : k < xs.length) (h : p (xs.getD k d) = true) (hb : ∀ j, j < k → p (xs.getD j d) = false) : (k : Int) = fstG p xs := by
  have : xs.findIdx? p = some k := by
    rw [List.findIdx?_eq_some_iff_getElem]
    refine ⟨hk, by simpa [List.getD, hk] using h, fun j hj => ?_⟩
    have := hb j hj
    have hjl : j < xs.length := by omega
    simpa [List.getD, hjl] using this
  unfold fstG
  rw [this]
theorem fstG_miss {α : Type} {d : α} {p : α → Bool} {xs : List α} (hb : ∀ j, j < xs.length → p (xs.getD j d) = false) : -1 = fstG p xs := by
  have : xs.findIdx? p = none := by
    rw [List.findIdx?_eq_none_iff]
    intro x hx
    obtain ⟨j, hj, rfl⟩ := List.mem_iff_getElem.1 hx
    have := hb j hj
    simpa [List.getD, hj] using this
  unfold fstG
  rw [this]
theorem fstG_any {α : Type} (p : α → Bool) (xs : List α) : decide (0 ≤ fstG p xs) = xs.any p := by
  unfold fstG
  rcases h : xs.findIdx? p with _ | k
  · rw [List.findIdx?_eq_none_iff] at h
    have : xs.any p = false := by
      rw [List.any_eq_false]
      intro x hx
      have := h x hx
      simp [this]
    rw [this]; rfl
  · rw [List.findIdx?_eq_some_iff_getElem] at h
    obtain ⟨hk, hp, _⟩ := h
    have : xs.any p = true := by
      rw [List.any_eq_true]
      exact ⟨xs[k], List.getElem_mem hk, hp⟩
    rw [this]
    simp
theorem mem_getD {α : Type} {d : α} {xs : List α} {k : Nat} (hk : k < xs.length) : xs.getD k d ∈ xs := by simp [List.getD, hk]
theorem fstG_find {α : Type} {d : α} (p : α → Bool) (xs : List α) : (fstG p xs = -1 ∧ xs.find? p = none) ∨ ∃ k : Nat, fstG p xs = k ∧ k < xs.length ∧ xs.find? p = some (xs.getD k d) := by
  unfold fstG
  rcases h : xs.findIdx? p with _ | k
  · refine .inl ⟨rfl, ?_⟩
    rw [List.findIdx?_eq_none_iff] at h
    rw [List.find?_eq_none]
    intro x hx
    simp [h x hx]
  · refine .inr ⟨k, rfl, ?_⟩
    rw [List.findIdx?_eq_some_iff_getElem] at h
    obtain ⟨hk, hp, hb⟩ := h
    refine ⟨hk, ?_⟩
    rw [List.find?_eq_some_iff_getElem]
    exact ⟨by simpa [List.getD, hk] using hp, k, hk, by simp [List.getD, hk], fun j hj => by simpa using hb j hj⟩

set_option maxHeartbeats 3200000 in
theorem i_IndexFuncS (p : List UInt8 → Bool) (g : Nat) (lb : Array Value) (eg : ∀ args w, (callFunc g args).run Tryz.prog w = .ok (.enter g args) w) (A : Option Addr) (n c : Nat) (xs : List (List UInt8)) (w : World) (h : SlAt w 1 encS A xs) (hn : n = xs.length) (hl : n ≤ 1048576)
    (hp : ∀ x ∈ xs, ∀ W, Ext w W → Calls Tryz.prog g (#[.string (tx x)] ++ lb) W fun e w' => e = .returned (.bool (p x)) ∧ Ext W w') :
    Calls Tryz.prog 126 #[.slice A n c, .func (.func g) #[] lb] w fun e w' => e = .returned (.int .i64 (fstG p xs)) ∧ Ext w w' := by
  have HP := Lib.hid hp
  have HN := Lib.hid hn
  clear hp hn
  go_enter Tryz.func126, Tryz.ntmps126
  go_wp2
  go_loopw [8] (fun i wr => ∃ k : Nat, k ≤ n ∧ i = .int .i64 k ∧ Hid (∀ j, j < k → p (xs.getD j ([] : List UInt8)) = false) ∧ Ext w wr) (fun i _ => n - (intOf i).toNat)
  case atStart => exact ⟨0, by omega, rfl, fun j hj => absurd hj (by omega), by (repeat (first | with_reducible exact Ext.refl _ | with_reducible assumption | ((with_reducible apply Src.ext); with_reducible assumption) | with_reducible refine Ext.alloc ?_ _ | with_reducible refine Ext.drew ?_ | with_reducible refine Ext.drewN ?_ _ | ((with_reducible refine Ext.setCell' ?_ ?_ _); solve | omega | simp | (simp; omega)) | (with_reducible refine Ext.trans ?_ (by with_reducible assumption))))⟩
  case round =>
    obtain ⟨k, hk, rfl, HJ, hxr⟩ := hrel
    by_cases hlt : k < n
    · have hkr : k < xs.length := by rw [← HN.out]; exact hlt
      obtain ⟨b, off, rfl, hb, d0⟩ := (h.ext hxr).st hkr
      have hcall := HP.out _ (mem_getD (d := ([] : List UInt8)) hkr)
      cases hq : p (xs.getD k ([] : List UInt8)) with
      | true =>
        have HQ := Lib.hid hq
        rw [hq] at hcall
        have HC := Lib.hid hcall
        clear hcall hq
        obtain ⟨r, hr⟩ : ∃ r, r = xs.getD k ([] : List UInt8) := ⟨_, rfl⟩
        rw [← hr] at d0 HC HQ
        have HR := Lib.hid hr
        clear hr
        go_wp2_with fail
        refine (HC.out _ (by (repeat (first | with_reducible exact Ext.refl _ | with_reducible assumption | ((with_reducible apply Src.ext); with_reducible assumption) | with_reducible refine Ext.alloc ?_ _ | with_reducible refine Ext.drew ?_ | with_reducible refine Ext.drewN ?_ _ | ((with_reducible refine Ext.setCell' ?_ ?_ _); solve | omega | simp | (simp; omega)) | (with_reducible refine Ext.trans ?_ (by with_reducible assumption)))))).mono ?_
        rintro e w' ⟨rfl, hx'⟩
        go_wp2
        go_ret
        exact ⟨ret_int (fstG_hit hkr (by rw [← HR.out]; exact HQ.out) HJ.out), by (repeat (first | with_reducible exact Ext.refl _ | with_reducible assumption | ((with_reducible apply Src.ext); with_reducible assumption) | with_reducible refine Ext.alloc ?_ _ | with_reducible refine Ext.drew ?_ | with_reducible refine Ext.drewN ?_ _ | ((with_reducible refine Ext.setCell' ?_ ?_ _); solve | omega | simp | (simp; omega)) | (with_reducible refine Ext.trans ?_ (by with_reducible assumption))))⟩
      | false =>
        have HJ2 := Lib.hid (upTo_succ HJ.out hq)
        rw [hq] at hcall
        have HC := Lib.hid hcall
        clear hcall hq
        obtain ⟨r, hr⟩ : ∃ r, r = xs.getD k ([] : List UInt8) := ⟨_, rfl⟩
        rw [← hr] at d0 HC
        have HR := Lib.hid hr
        clear hr
        go_wp2_with fail
        refine (HC.out _ (by (repeat (first | with_reducible exact Ext.refl _ | with_reducible assumption | ((with_reducible apply Src.ext); with_reducible assumption) | with_reducible refine Ext.alloc ?_ _ | with_reducible refine Ext.drew ?_ | with_reducible refine Ext.drewN ?_ _ | ((with_reducible refine Ext.setCell' ?_ ?_ _); solve | omega | simp | (simp; omega)) | (with_reducible refine Ext.trans ?_ (by with_reducible assumption)))))).mono ?_
        rintro e w' ⟨rfl, hx'⟩
        go_wp2
        go_roundw
        case rel => exact ⟨k + 1, by omega, by go_num, HJ2, by (repeat (first | with_reducible exact Ext.refl _ | with_reducible assumption | ((with_reducible apply Src.ext); with_reducible assumption) | with_reducible refine Ext.alloc ?_ _ | with_reducible refine Ext.drew ?_ | with_reducible refine Ext.drewN ?_ _ | ((with_reducible refine Ext.setCell' ?_ ?_ _); solve | omega | simp | (simp; omega)) | (with_reducible refine Ext.trans ?_ (by with_reducible assumption))))⟩
        case measure => simp [intOf]; omega
    · obtain rfl : k = n := by omega
      go_wp2
      go_ret
      exact ⟨ret_int (fstG_miss (by rw [← HN.out]; exact HJ.out)), by (repeat (first | with_reducible exact Ext.refl _ | with_reducible assumption | ((with_reducible apply Src.ext); with_reducible assumption) | with_reducible refine Ext.alloc ?_ _ | with_reducible refine Ext.drew ?_ | with_reducible refine Ext.drewN ?_ _ | ((with_reducible refine Ext.setCell' ?_ ?_ _); solve | omega | simp | (simp; omega)) | (with_reducible refine Ext.trans ?_ (by with_reducible assumption))))⟩

set_option maxHeartbeats 3200000 in
theorem i_ContainsFuncS (p : List UInt8 → Bool) (g : Nat) (lb : Array Value) (eg : ∀ args w, (callFunc g args).run Tryz.prog w = .ok (.enter g args) w) (A : Option Addr) (n c : Nat) (xs : List (List UInt8)) (w : World) (h : SlAt w 1 encS A xs) (hn : n = xs.length) (hl : n ≤ 1048576)
    (hp : ∀ x ∈ xs, ∀ W, Ext w W → Calls Tryz.prog g (#[.string (tx x)] ++ lb) W fun e w' => e = .returned (.bool (p x)) ∧ Ext W w') :
    Calls Tryz.prog 95 #[.slice A n c, .func (.func g) #[] lb] w fun e w' => e = .returned (.bool (xs.any p)) ∧ Ext w w' := by
  rw [← fstG_any]
  have hcall := i_IndexFuncS p g lb eg A n c xs w h hn hl hp
  have HC := Lib.hid hcall
  clear hcall hp hn
  go_enter Tryz.func95, Tryz.ntmps95
  go_wp2_with fail
  refine HC.out.mono ?_
  rintro e w' ⟨rfl, hx⟩
  go_wp2
  go_ret
  exact ⟨rfl, hx⟩


/-- the words of a closure over a place and a year -/
def parP (c : List UInt8) (y : Int) (l : Lk) : Bool := l.1 == c && lkHas l y
theorem par_find (L : List Lk) (c : List UInt8) (y : Int) : par L c y = (L.find? (parP c y)).map fun l => l.2.1 := rfl

end Go.Proofs.YtabdffponmmhoaaGreatDoor
