/- The law of the points of texts, walked over the translation. -/
import Derived.Test.YtdbheipjbjcikaaGreatDoorTJ
import Derived.Test.YtdbheipjbjcikaaGreatDoorAP
import Derived.Deep.RegionHeld3
import Derived.Deep.DeepCutAuto
import Derived.RegionTactic
import Derived.BigRegion
import Derived.WalkLawsBesides
import Derived.WalkSpells
import Derived.Lib.MinMax
import Derived.Outline
namespace Go.Proofs.YtdbheipjbjcikaaGreatDoor
open Go.RowKit
attribute [local go_sem] ExtOf.cell ExtOf.frozen

open Go.PlainAid
theorem l_bigT (A : Option Addr) (c : Nat) (n : Nat) (w : World) : Calls Tryz.prog 15 #[.slice A n c] w fun e w' => e = .returned (.bool (decide (4096 < n))) ∧ w = w' := by
  go_enter Tryz.func15, Tryz.ntmps15
  go_wp2
  go_ret
  exact ⟨ret_bool' (by simp; try omega), rfl⟩
theorem rdP_some {l : List UInt8} {x z : Int} (h : rdP l = some (x, z)) : okP x z = true ∧ l = ptT x z := by
  unfold rdP at h
  split at h
  · rename_i hx
    have e := Option.some.inj h
    have hs := hx.choose_spec
    rw [e] at hs
    exact hs
  · cases h
theorem rd_of {l : List UInt8} {r : Option (Int × Int)} (hr : rdP l = r) : rdX l = (r.getD (0, 0)).1 ∧ rdZ l = (r.getD (0, 0)).2 ∧ rdC l = if r.isSome then 0 else 6 := by unfold rdX rdZ rdC; rw [hr]; exact ⟨rfl, rfl, rfl⟩
theorem s_ReadPoint_yes {t : ByteArray} {x z : Int} (h : rdP t.data.toList = some (x, z)) (ht : t.size ≤ 1048576) (W : World) : Calls Tryz.prog 72 #[.string t] W fun e w' => e = .returned (.tuple #[.agg #[.int .i64 x, .int .i64 z], .int .i64 0]) ∧ Ext W w' := by
  have := s_ReadPoint t W ht
  obtain ⟨e1, e2, e3⟩ := rd_of h
  rw [e1, e2, e3] at this
  exact this
theorem s_ReadPoint_no {t : ByteArray} (h : rdP t.data.toList = none) (ht : t.size ≤ 1048576) (W : World) : Calls Tryz.prog 72 #[.string t] W fun e w' => e = .returned (.tuple #[.agg #[.int .i64 0, .int .i64 0], .int .i64 6]) ∧ Ext W w' := by
  have := s_ReadPoint t W ht
  obtain ⟨e1, e2, e3⟩ := rd_of h
  rw [e1, e2, e3] at this
  exact this


end Go.Proofs.YtdbheipjbjcikaaGreatDoor
