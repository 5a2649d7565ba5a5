/- Contracts of marks in lists of texts, walked over the translation. -/
import Derived.Test.YtmpgjajkaehdiaaGreatDoorGT
import Derived.Test.YtmpgjajkaehdiaaGreatDoorG0
import Derived.Deep.RegionHeld3
import Derived.Deep.DeepCutAuto
import Derived.RegionTactic
import Derived.BigRegion
import Derived.WalkLawsBesides
import Derived.WalkSpells
import Derived.Lib.MinMax
import Derived.Outline
namespace Go.Proofs.YtmpgjajkaehdiaaGreatDoor
open Go.RowKit
attribute [local go_sem] ExtOf.cell ExtOf.frozen

/-- the text of mark k -/
def mkL (k : Nat) : List UInt8 := 109 :: Lib.decDigits k
/-- the digits of m ahead of o -/
def dgO (m : Nat) (o : List UInt8) : List UInt8 := if m = 0 then o else Lib.decDigits m ++ o
theorem dgO_step {m : Nat} (hm : 0 < m) (o : List UInt8) : dgO (m / 10) (UInt8.ofNat (48 + m % 10) :: o) = dgO m o := by
  unfold dgO
  rw [if_neg (show ¬ m = 0 by omega)]
  by_cases h : m < 10
  · rw [if_pos (by omega), Lib.decDigits_one h, Nat.mod_eq_of_lt h]; rfl
  · rw [if_neg (by omega), show Lib.decDigits m = Lib.decDigits (m / 10) ++ [UInt8.ofNat (48 + m % 10)] by rw [Lib.decDigits, dif_neg h], List.append_assoc]; rfl
theorem dgO_len {m : Nat} {o D : List UInt8} (h : dgO m o = D) : o.length ≤ D.length := by
  rw [← h]
  unfold dgO
  split
  · exact Nat.le_refl _
  · simp
set_option maxRecDepth 20000 in
set_option maxHeartbeats 3200000 in
theorem l_markText (k : Nat) (w : World) (h0 : 0 < k) (h1 : k ≤ 1000000000000000) : Calls Tryz.prog 92 #[.int .i64 k] w fun e w' => e = .returned (.string (tx (mkL k))) ∧ Ext w w' := by
  have hl := dec_len (n := k) (by omega)
  have hle : decide ((k : Int) ≤ 0) = false := decide_eq_false (by omega)
  go_enter Tryz.func92, Tryz.ntmps92
  go_wp2
  go_loopw [0, 3] (fun kv ov wr => ∃ (m : Nat) (o : List UInt8), m ≤ k ∧ kv = .int .i64 m ∧ ov = .string (tx o) ∧ Hid (dgO m o = Lib.decDigits k) ∧ Ext w wr) (fun kv _ _ => (intOf kv).toNat)
  case atStart => exact ⟨k, [], Nat.le_refl _, rfl, rfl, Lib.hid (by unfold dgO; rw [if_neg (by omega), List.append_nil]), by (repeat (first | with_reducible exact Ext.refl _ | with_reducible assumption | ((with_reducible apply Src.ext); with_reducible assumption) | with_reducible refine Ext.alloc ?_ _ | with_reducible refine Ext.drew ?_ | with_reducible refine Ext.drewN ?_ _ | ((with_reducible refine Ext.setCell' ?_ ?_ _); solve | omega | simp | (simp; omega)) | (with_reducible refine Ext.trans ?_ (by with_reducible assumption))))⟩
  case round =>
    obtain ⟨m, o, hm, rfl, rfl, HD, hxr⟩ := hrel
    have hol := dgO_len HD.out
    by_cases hm0 : 0 < m
    · have hq : (m : Int).tdiv 10 = ((m / 10 : Nat) : Int) := by rw [Int.tdiv_eq_ediv_of_nonneg (by omega)]; omega
      have hr : (m : Int).tmod 10 = ((m % 10 : Nat) : Int) := by rw [Int.tmod_eq_emod_of_nonneg (by omega)]; omega
      have hz := dig_nat (Nat.mod_lt m (show 0 < 10 by omega))
      have hml := Nat.mod_lt m (show 0 < 10 by omega)
      have HD2 := Lib.hid ((dgO_step hm0 o).trans HD.out)
      generalize UInt8.ofNat (48 + m % 10) = x at hz HD2
      have hlt : m / 10 < m := by omega
      generalize hn1 : m / 10 = a at *
      generalize hn2 : m % 10 = b at *
      have hconv : ∀ (W : World) (g : Nat), W.cell? ⟨g, 0, none⟩ = some (.int .u8 (48 + (b : Int))) → (convert 22 9 (.slice (some ⟨g, 0, none⟩) 1 1)).run Tryz.prog W = .ok (.string (tx [x])) W := fun W g hc => conv_one hz hc
      have hw1 : IntKind.i64.wrap (a : Int) = (a : Int) := IntWalk.i64_in _ (by omega)
      have hw2 : IntKind.i64.wrap (48 + (b : Int)) = 48 + (b : Int) := IntWalk.i64_in _ (by omega)
      have hw3 : IntKind.u8.wrap (48 + (b : Int)) = 48 + (b : Int) := IntWalk.u8_in _ (by omega)
      have hf : ((tx [x]).size + (tx o).size > 9223372036854775807) = False := eq_false (by rw [tx_size, tx_size]; simp; omega)
      have E1 : Hid (tx [x] ++ tx o = tx (x :: o)) := Lib.hid (by rw [tx_add]; rfl)
      generalize htx : tx [x] = s1 at *
      generalize hto : tx o = s2 at *
      have HA : Hid (a < m ∧ m ≤ k) := Lib.hid ⟨hlt, hm⟩
      clear hz hn1 hn2 hol htx hto
      go_wp2
      go_roundw
      case rel => exact ⟨a, x :: o, by omega, by go_num, by rw [← E1.out], HD2, by (repeat (first | with_reducible exact Ext.refl _ | with_reducible assumption | ((with_reducible apply Src.ext); with_reducible assumption) | with_reducible refine Ext.alloc ?_ _ | with_reducible refine Ext.drew ?_ | with_reducible refine Ext.drewN ?_ _ | ((with_reducible refine Ext.setCell' ?_ ?_ _); solve | omega | simp | (simp; omega)) | (with_reducible refine Ext.trans ?_ (by with_reducible assumption))))⟩
      case measure => simp [intOf]; omega
    · obtain rfl : m = 0 := by omega
      have hE : o = Lib.decDigits k := by have := HD.out; unfold dgO at this; rwa [if_pos rfl] at this
      have hf : (1 + (tx o).size > 9223372036854775807) = False := eq_false (by rw [tx_size]; omega)
      have E1 : Hid ((⟨#[109]⟩ : ByteArray) ++ tx o = tx (mkL k)) := Lib.hid (by rw [tx_cons, hE]; rfl)
      generalize tx o = s2 at *
      clear hE hol
      go_wp2
      go_ret
      exact ⟨congrArg (fun s => Ending.returned (.string s)) E1.out, by (repeat (first | with_reducible exact Ext.refl _ | with_reducible assumption | ((with_reducible apply Src.ext); with_reducible assumption) | with_reducible refine Ext.alloc ?_ _ | with_reducible refine Ext.drew ?_ | with_reducible refine Ext.drewN ?_ _ | ((with_reducible refine Ext.setCell' ?_ ?_ _); solve | omega | simp | (simp; omega)) | (with_reducible refine Ext.trans ?_ (by with_reducible assumption))))⟩
theorem mkL_len {k : Nat} (h : k ≤ 1000000000000000) : (mkL k).length ≤ 21 := by
  have := dec_len (n := k) (by omega)
  simp only [mkL, List.length_cons]
  omega
/-- marks in a list of texts -/
def marksS (k n : Nat) : List (List UInt8) := (List.range n).map fun i => mkL (k + i)
theorem marksS_len (k n : Nat) : (marksS k n).length = n := by simp [marksS]
theorem marksS_at (k : Nat) {n i : Nat} (hi : i < n) : (marksS k n).getD i [] = mkL (k + i) := by simp [marksS, List.getD, hi]
def MarkS (k j sz : Nat) (cs : Array Value) : Prop := cs.size = sz ∧ ∀ q, q < j → cs[q]? = some (.string (tx (mkL (k + q))))
theorem MarkS.step {k j sz : Nat} {cs : Array Value} (h : MarkS k j sz cs) (hs : j < sz) : MarkS k (j + 1) sz (cs.setIfInBounds j (.string (tx (mkL (k + j))))) := by
  have hz := h.1
  refine ⟨by simpa using h.1, fun q hq => ?_⟩
  by_cases e : q = j
  · subst e
    rw [Array.getElem?_setIfInBounds_self_of_lt (by omega)]
  · rw [Array.getElem?_setIfInBounds_ne (by omega)]
    exact h.2 q (by omega)
theorem MarkS.done {k n sz : Nat} {cs : Array Value} (h : MarkS k n sz cs) (hs : n ≤ sz) : cs.toList.take (n * 1) = (marksS k n).flatMap encS := by
  have hz := h.1
  rw [Nat.mul_one]
  apply List.ext_getElem?
  intro i
  rcases Nat.lt_or_ge i n with hi | hi
  · rw [List.getElem?_take_of_lt hi, Array.getElem?_toList, h.2 i hi]
    have hg : (marksS k n)[i]? = some (mkL (k + i)) := by simp [marksS, hi]
    have h0 := flatMap_at (enc := encS) (sz := 1) len_encS (marksS k n) i _ 0 _ hg rfl
    rw [Nat.mul_one, Nat.add_zero] at h0
    rw [h0]
  · have hle : (cs.toList.take n).length ≤ i := by simp; omega
    rw [List.getElem?_eq_none hle, List.getElem?_eq_none (by rw [flatMap_len len_encS, marksS_len]; omega)]

end Go.Proofs.YtmpgjajkaehdiaaGreatDoor
