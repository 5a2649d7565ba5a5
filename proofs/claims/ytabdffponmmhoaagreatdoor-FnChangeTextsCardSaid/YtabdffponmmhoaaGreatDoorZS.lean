/- Contracts of the laws over lists of texts, walked over the translation. -/
import Derived.Test.YtabdffponmmhoaaGreatDoorGT
import Derived.Deep.RegionHeld3
import Derived.Deep.DeepCutAuto
import Derived.RegionTactic
import Derived.BigRegion
import Derived.WalkLawsBesides
import Derived.WalkSpells
import Derived.Lib.MinMax
import Derived.Outline
namespace Go.Proofs.YtabdffponmmhoaaGreatDoor
open Go.RowKit
attribute [local go_sem] ExtOf.cell ExtOf.frozen

theorem enters_isSome {P : Program} {f : FuncId} {fn : Func} (hf : P.funcs[f]? = some fn) (hname : (fn.name == "runtime.NumGoroutine") = false) (hb : fn.body.isSome = true) (args : Array Value) (w : World) : (callFunc f args).run P w = .ok (.enter f args) w := by
  have h1 : fn.name ≠ "runtime.NumGoroutine" := by simpa using hname
  obtain ⟨c, hc⟩ := Option.isSome_iff_exists.1 hb
  simp [callFunc, hf, h1, hc, mark]
theorem upTo_succ {P : Nat → Prop} {k : Nat} (h : ∀ j, j < k → P j) (hk : P k) : ∀ j, j < k + 1 → P j := fun j hj => by
  rcases Nat.lt_or_ge j k with e | e
  · exact h j e
  · have : j = k := by omega
    exact this ▸ hk
theorem getD_small {α : Type} {L : List (List α)} {m : Nat} (h : ∀ i, i < L.length → (L.getD i []).length ≤ m) : ∀ i, (L.getD i []).length ≤ m := fun i => by
  rcases Nat.lt_or_ge i L.length with hi | hi
  · exact h i hi
  · rw [List.getD_eq_getElem?_getD, List.getElem?_eq_none hi]; simp
/-- what is known of a size that was reckoned over texts -/
def SzS (L : List (List UInt8)) (z : Int) : Prop := z ≤ 1048576 ∧ (z = -1 ∨ (0 ≤ z ∧ L.length ≤ 1048576 ∧ ∀ i, (L.getD i []).length ≤ 1048576))
set_option maxHeartbeats 3200000 in
theorem l_szStringS (A : Option Addr) (n c : Nat) (L : List (List UInt8)) (left : Int) (w : World) (h : SlAt w 1 encS A L) (hn : n = L.length) (hb : n ≤ 9223372036854775807) (hs : ∀ i, i < L.length → (L.getD i []).length ≤ 9223372036854775807) (h0 : 0 ≤ left) (h1 : left ≤ 1048576) :
    Calls Tryz.prog 62 #[.slice A n c, .int .i64 left] w fun e w' => (∃ z : Int, e = .returned (.int .i64 z) ∧ SzS L z) ∧ w = w' := by
  have HN := Lib.hid hn
  have HS := Lib.hid hs
  clear hn hs
  by_cases hc : left - (n : Int) < 0
  · go_enter Tryz.func62, Tryz.ntmps62
    go_wp2
    go_ret
    exact ⟨⟨-1, rfl, by omega, .inl rfl⟩, rfl⟩
  · have hl : n ≤ 1048576 := by omega
    go_enter Tryz.func62, Tryz.ntmps62
    go_wp2
    go_loop [1, 5] (fun l i => ∃ (k : Nat) (z : Int), k ≤ n ∧ i = .int .i64 k ∧ l = .int .i64 z ∧ 0 ≤ z ∧ z ≤ 1048576 ∧ Hid (∀ i, i < k → (L.getD i []).length ≤ 1048576)) (fun _ i => n - (intOf i).toNat)
    case atStart => exact ⟨0, left - n, by omega, rfl, rfl, by omega, by omega, fun j hj => absurd hj (by omega)⟩
    case round =>
      obtain ⟨k, z, hk, rfl, rfl, hz0, hz1, HJ⟩ := hrel
      by_cases hlt : k < n
      · have hkl : k < L.length := by rw [← HN.out]; exact hlt
        obtain ⟨b, off, rfl, hb, hcell⟩ := h.st hkl
        have hm := HS.out k hkl
        have hsz := tx_size (L.getD k [])
        obtain ⟨x, hxe⟩ : ∃ x, x = L.getD k [] := ⟨_, rfl⟩
        rw [← hxe] at hcell hm hsz
        have HX := Lib.hid hxe
        clear hxe
        obtain ⟨s, hse⟩ : ∃ s, s = tx x := ⟨_, rfl⟩
        rw [← hse] at hcell hsz
        clear hse
        by_cases hz : z - (x.length : Int) < 0
        · go_wp2
          go_ret
          exact ⟨⟨-1, rfl, by omega, .inl rfl⟩, rfl⟩
        · have HJ2 := Lib.hid (upTo_succ HJ.out (show (L.getD k []).length ≤ 1048576 by rw [← HX.out]; omega))
          go_wp2
          go_round
          case rel => exact ⟨k + 1, z - (x.length : Int), by omega, by go_num, rfl, by omega, by omega, HJ2⟩
          case measure => simp [intOf]; omega
      · obtain rfl : k = n := by omega
        go_wp2
        go_ret
        exact ⟨⟨z, rfl, by omega, .inr ⟨hz0, by rw [← HN.out]; exact hl, getD_small (by rw [← HN.out]; exact HJ.out)⟩⟩, rfl⟩
theorem Filled.step1 {α : Type} {enc : α → List Value} {xs : List α} {k : Nat} {cs : Array Value} {x : α} {u : Value} (hk : ∀ x, (enc x).length = 1) (h : Filled 1 enc xs k cs) (hx : xs[k]? = some x) (he : enc x = [u]) :
    Filled 1 enc xs (k + 1) (cs.setIfInBounds k u) := by
  have hl : k < xs.length := (List.getElem?_eq_some_iff.1 hx).1
  refine ⟨by simpa using h.1, fun j hj => ?_⟩
  have h0 := flatMap_at hk xs k x 0 u hx (by simp [he])
  rw [Nat.mul_one, Nat.add_zero] at h0
  have hs := h.1
  by_cases e1 : j = k
  · subst e1; rw [Array.getElem?_setIfInBounds_self_of_lt (by omega), h0]
  · rw [Array.getElem?_setIfInBounds_ne (by omega)]
    exact h.2 j (by omega)
set_option maxHeartbeats 3200000 in
theorem l_toStringS (A : Option Addr) (n c : Nat) (L : List (List UInt8)) (w : World) (h : SlAt w 1 encS A L) (hn : n = L.length) (hl : n ≤ 1048576) :
    Calls Tryz.prog 69 #[.slice A n c] w fun e w' => ∃ cs, e = .returned (.slice (some ⟨w.heap.size, 0, none⟩) n n) ∧ Blk w' w.heap.size 9 cs ∧ cs.toList = L.flatMap encS ∧ Ext w w' := by
  subst hn
  obtain ⟨hu, ⟨i0, z0, hi, hz, hz1, hz2, hz3⟩, _⟩ := elS
  have hzz : i0.zero = some (.string .empty) := by
    have : (Tryz.prog.info? 9).map (fun i => i.zero) = some (some (.string .empty)) := by kernel_rfl
    rw [hi] at this
    injection this
  have hmk : ∀ u : World, (Instr.makeSlice 28 (.int .i64 (L.length : Int)) (.int .i64 (L.length : Int))).run Tryz.prog u =
      .ok (.slice (some ⟨u.heap.size, 0, none⟩) L.length L.length) (u.alloc (.cells (madeCells #[.string .empty] (L.length * 1)) 9)) := fun u => by
    have h := run_make (P := Tryz.prog) u 28 9 i0 (.string .empty) hu hi hzz .i64 .i64 (L.length : Int) (L.length : Int) (by omega) (Int.le_refl _) (by rw [hz2]; omega) (by omega)
    simpa [hz1, Value.cells] using h
  clear hz hz3
  go_enter Tryz.func69, Tryz.ntmps69
  go_wp2
  go_loopw [4] (fun i wr => ∃ (k : Nat) (cs : Array Value), k ≤ L.length ∧ i = .int .i64 k ∧ Blk wr w.heap.size 9 cs ∧ Hid (Filled 1 encS L k cs) ∧ Ext w wr) (fun i _ => L.length - (intOf i).toNat)
  case atStart => exact ⟨0, _, Nat.zero_le _, rfl, Blk.new rfl, Lib.hid (Filled.start (by simp [madeCells])), by (repeat (first | with_reducible exact Ext.refl _ | with_reducible assumption | ((with_reducible apply Src.ext); with_reducible assumption) | with_reducible refine Ext.alloc ?_ _ | with_reducible refine Ext.drew ?_ | with_reducible refine Ext.drewN ?_ _ | ((with_reducible refine Ext.setCell' ?_ ?_ _); solve | omega | simp | (simp; omega)) | (with_reducible refine Ext.trans ?_ (by with_reducible assumption))))⟩
  case round =>
    obtain ⟨k, cs, hk, rfl, hB, HF, hx⟩ := hrel
    by_cases hlt : k < L.length
    · obtain ⟨b, off, rfl, hb, d0⟩ := (h.ext hx).st hlt
      obtain ⟨u0, hu0⟩ := HF.out.at_ (j := k) (by omega)
      have c0 := (hB.cell k).trans hu0
      have f0 := hB.frozen k
      have hBl := hB.lt
      have HX : Hid (Filled 1 encS L (k + 1) (cs.setIfInBounds k (.string (tx (L.getD k []))))) := Lib.hid (HF.out.step1 len_encS (List.getElem?_eq_getElem hlt) (by simp [encS, List.getD, hlt]))
      generalize tx (L.getD k []) = s at *
      clear hu0
      go_wp2
      go_roundw
      case rel => exact ⟨k + 1, _, by omega, by go_num, hB.set_ _ _, HX, by (repeat (first | with_reducible exact Ext.refl _ | with_reducible assumption | ((with_reducible apply Src.ext); with_reducible assumption) | with_reducible refine Ext.alloc ?_ _ | with_reducible refine Ext.drew ?_ | with_reducible refine Ext.drewN ?_ _ | ((with_reducible refine Ext.setCell' ?_ ?_ _); solve | omega | simp | (simp; omega)) | (with_reducible refine Ext.trans ?_ (by with_reducible assumption))))⟩
      case measure => simp [intOf]; omega
    · go_wp2
      go_ret
      obtain rfl : k = L.length := by omega
      exact ⟨cs, rfl, hB, HF.out.done len_encS, hx⟩
set_option maxHeartbeats 1600000 in
theorem l_eqS (A A' : Option Addr) (n c c' : Nat) (L : List (List UInt8)) (w : World) (h : SlAt w 1 encS A L) (h' : SlAt w 1 encS A' L) (hn : n = L.length) (hl : n ≤ 1048576) :
    Calls Tryz.prog 12 #[.slice A n c, .slice A' n c'] w fun e w' => e = .returned (.bool true) ∧ Ext w w' := by
  have hn1 : (((n : Nat) : Int) != (n : Int)) = false := by simp
  have HN := Lib.hid hn
  clear hn
  go_enter Tryz.func12, Tryz.ntmps12
  go_wp2
  go_loopw [5] (fun i wr => ∃ k : Nat, k ≤ n ∧ i = .int .i64 k ∧ Ext w wr) (fun i _ => n - (intOf i).toNat)
  case atStart => exact ⟨0, Nat.zero_le _, rfl, by (repeat (first | with_reducible exact Ext.refl _ | with_reducible assumption | ((with_reducible apply Src.ext); with_reducible assumption) | with_reducible refine Ext.alloc ?_ _ | with_reducible refine Ext.drew ?_ | with_reducible refine Ext.drewN ?_ _ | ((with_reducible refine Ext.setCell' ?_ ?_ _); solve | omega | simp | (simp; omega)) | (with_reducible refine Ext.trans ?_ (by with_reducible assumption))))⟩
  case round =>
    obtain ⟨k, hk, rfl, hx⟩ := hrel
    by_cases hlt : k < n
    · obtain ⟨b, off, rfl, hb, d0⟩ := (h.ext hx).st (k := k) (by rw [← HN.out]; exact hlt)
      obtain ⟨b', off', rfl, hb', d1⟩ := (h'.ext hx).st (k := k) (by rw [← HN.out]; exact hlt)
      generalize tx (L.getD k []) = x at d0 d1
      have hxx : (x.toList == x.toList) = true := by simp
      go_wp2
      (refine wp_region_ext (by kernel_rfl) (by kernel_rfl) ?_; (repeat (go_big_quiet_step (fail))); refine wpQuiet_nil ?_; intro wq hxwq; obtain ⟨hcwq, hfwq⟩ := hxwq.rules; have hswq := hxwq.size; (try simp at hswq))
      go_wp2
      go_roundw
      case rel => exact ⟨k + 1, by omega, by go_num, by (repeat (first | with_reducible exact Ext.refl _ | with_reducible assumption | ((with_reducible apply Src.ext); with_reducible assumption) | with_reducible refine Ext.alloc ?_ _ | with_reducible refine Ext.drew ?_ | with_reducible refine Ext.drewN ?_ _ | ((with_reducible refine Ext.setCell' ?_ ?_ _); solve | omega | simp | (simp; omega)) | (with_reducible refine Ext.trans ?_ (by with_reducible assumption))))⟩
      case measure => simp [intOf]; omega
    · go_wp2
      go_ret
      exact ⟨rfl, by (repeat (first | with_reducible exact Ext.refl _ | with_reducible assumption | ((with_reducible apply Src.ext); with_reducible assumption) | with_reducible refine Ext.alloc ?_ _ | with_reducible refine Ext.drew ?_ | with_reducible refine Ext.drewN ?_ _ | ((with_reducible refine Ext.setCell' ?_ ?_ _); solve | omega | simp | (simp; omega)) | (with_reducible refine Ext.trans ?_ (by with_reducible assumption))))⟩
end Go.Proofs.YtabdffponmmhoaaGreatDoor
