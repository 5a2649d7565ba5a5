/- The names of a way up: no program in sight, but for names of places. -/
import Derived.Test.YtapfokfbdmcokaaGreatDoorYV
import Derived.Test.YtapfokfbdmcokaaGreatDoorYPA
import Derived.Test.YtapfokfbdmcokaaGreatDoorShJ
import Derived.Deep.RegionHeld3
import Derived.Deep.DeepCutAuto
import Derived.RegionTactic
import Derived.BigRegion
import Derived.WalkLawsBesides
import Derived.WalkSpells
import Derived.Lib.MinMax
import Derived.Outline
namespace Go.Proofs.YtapfokfbdmcokaaGreatDoor
open Go.RowKit
attribute [local go_sem] ExtOf.cell ExtOf.frozen


noncomputable def slC (D : List Pd) (L : List Lk) (x : List UInt8) (ls : List (List UInt8)) (y : Int) : Int := ssC D L x (lgB ls) y
def slO (D : List Pd) (ls : List (List UInt8)) (y : Int) (z : List UInt8) : List UInt8 := nmO ((fndP D z).getD pdD) ls y
def slN (D : List Pd) (L : List Lk) (x : List UInt8) (ls : List (List UInt8)) (y : Int) : List (List UInt8) := (wayU L x y).1.map (slO D ls y)
noncomputable def slR (D : List Pd) (L : List Lk) (x : List UInt8) (ls : List (List UInt8)) (y : Int) : List UInt8 := if slC D L x ls y = 0 then jn (slN D L x ls y) [44, 32] else []
theorem slN_len (D : List Pd) (L : List Lk) (x : List UInt8) (ls : List (List UInt8)) (y : Int) : (slN D L x ls y).length = (wayU L x y).1.length := List.length_map ..
theorem slN_at {D : List Pd} {L : List Lk} {x : List UInt8} {ls : List (List UInt8)} {y : Int} {k : Nat} (hk : k < (wayU L x y).1.length) : (slN D L x ls y).getD k [] = slO D ls y ((wayU L x y).1.getD k []) := by
  simp [slN, List.getD, hk]
theorem ssC_false {D : List Pd} {L : List Lk} {x : List UInt8} {y : Int} : ssC D L x false y = 1 := by
  have h : wyC D L (smL x 1 16 && false) [y] = 1 := wyC_no (Bool.and_false _)
  have e : plC D L x false y = 1 := by rw [plC_ne (by rw [h]; omega), h]
  rw [ssC_ne (by omega), e]
/-- a row that is written over: the first k are new -/
def MixS (N U : List (List UInt8)) (k sz : Nat) (cs : Array Value) : Prop := cs.size = sz ∧ (∀ q, q < k → cs[q]? = some (.string (tx (N.getD q [])))) ∧ ∀ q, k ≤ q → q < U.length → cs[q]? = some (.string (tx (U.getD q [])))
theorem MixS.start {N U : List (List UInt8)} {sz : Nat} {cs : Array Value} (hz : cs.size = sz) (h : cs.toList.take (U.length * 1) = U.flatMap encS) : MixS N U 0 sz cs := by
  refine ⟨hz, fun q hq => absurd hq (by omega), fun q _ hq => ?_⟩
  have hg : U[q]? = some (U.getD q []) := by simp [List.getD, hq]
  have h0 := flatMap_at (enc := encS) (sz := 1) len_encS U q _ 0 _ hg rfl
  rw [Nat.mul_one, Nat.add_zero, ← h, Nat.mul_one, List.getElem?_take_of_lt hq, Array.getElem?_toList] at h0
  exact h0
theorem MixS.step {N U : List (List UInt8)} {k sz : Nat} {cs : Array Value} (h : MixS N U k sz cs) (hs : k < sz) {s : ByteArray} (e : s = tx (N.getD k [])) : MixS N U (k + 1) sz (cs.setIfInBounds k (.string s)) := by
  have hz := h.1
  refine ⟨by simpa using h.1, fun q hq => ?_, fun q h1 h2 => ?_⟩
  · by_cases e2 : q = k
    · subst e2
      rw [Array.getElem?_setIfInBounds_self_of_lt (by omega), e]
    · rw [Array.getElem?_setIfInBounds_ne (by omega)]
      exact h.2.1 q (by omega)
  · rw [Array.getElem?_setIfInBounds_ne (by omega)]
    exact h.2.2 q (by omega) h2
section
variable {w : World} {A A' A9 : Option Addr} {n c m c' r c9 : Nat} {ps : List Pl} {L : List Lk} {ls : List (List UInt8)}
theorem IsP.name {d : Pd} {v : Value} (hP : IsP w d v) (h' : SlAt w 1 encS A9 ls) (hr : r = ls.length) (hr9 : r ≤ 1048576) (y : Int) :
    Calls Tryz.prog 80 #[v, .slice A9 r c9, .int .i64 y] w fun e w' => e = .returned (.string (tx (nmO d ls y))) ∧ Ext w w' := by
  obtain ⟨p, g1, rfl, g3, rfl⟩ := hP
  exact i_nameOf p A9 r c9 ls y w g1 h' hr hr9
theorem IsP.nameLen {d : Pd} {v : Value} (hP : IsP w d v) (y : Int) : (nmO d ls y).length ≤ 1048576 := by
  obtain ⟨p, g1, rfl, g3, rfl⟩ := hP
  rcases bsG_cases (ns := p.2.2.2.2.2.2) (y := y) ls with hc | ⟨i, hc, hi⟩
  · rw [nmO_no (d := pdOf p) (show bsN (pdOf p) ls y = -1 from hc)]
    exact g1.2.2.1
  · rw [nmO_at (d := pdOf p) (show bsN (pdOf p) ls y = i from hc)]
    exact (g1.2.2.2.2 i).1
/-- a place with a code that is known -/
theorem isP_fnd (h : WIn w A A' n c m c' ps L) (hw : wdB (psD ps) L = true) {z : List UInt8} (hf : (fndP (psD ps) z).isSome = true) : ∃ v, IsP w ((fndP (psD ps) z).getD pdD) v := by
  obtain ⟨k, hk1, hk2, hk3, hk4⟩ := fnd_some hf
  rw [psD_len] at hk2
  rw [psD_at hk2] at hk3
  refine ⟨plV (ps.getD k plD), ?_⟩
  rw [hk3]
  exact isP_at h hw hk2
theorem slN_small (h : WIn w A A' n c m c' ps L) (hw : wdB (psD ps) L = true) {x : List UInt8} (hx : (fndP (psD ps) x).isSome = true) {y : Int} : ∀ z ∈ slN (psD ps) L x ls y, z.length ≤ 1048576 := by
  intro z hz
  unfold slN at hz
  rw [List.mem_map] at hz
  obtain ⟨u, hu, rfl⟩ := hz
  obtain ⟨v, hv⟩ := isP_fnd h hw (wdB_way hw hx hu)
  exact hv.nameLen y
theorem slN_join (h : WIn w A A' n c m c' ps L) (hw : wdB (psD ps) L = true) {x : List UInt8} (hx : (fndP (psD ps) x).isSome = true) {y : Int} (k : Nat) : (jn ((slN (psD ps) L x ls y).take k) [44, 32]).length ≤ 22020138 := by
  have h1 := jn_len (sep := [44, 32]) (m := 1048576) (L := (slN (psD ps) L x ls y).take k) (fun z hz => slN_small h hw hx z (List.mem_of_mem_take hz))
  have h2 : ((slN (psD ps) L x ls y).take k).length ≤ 21 := by
    rw [List.length_take, slN_len]
    obtain ⟨_, _, h3⟩ := wayU_ne L x y
    have h4 := lks20 (wdB_iff.1 hw).2.1
    omega
  have h3 := Nat.mul_le_mul_left (([44, 32] : List UInt8).length + 1048576) h2
  have h4 : ([44, 32] : List UInt8).length = 2 := rfl
  rw [h4] at h1 h3
  omega
end

end Go.Proofs.YtapfokfbdmcokaaGreatDoor
