/- The law of IsChange, walked over the translation. -/
import Derived.Test.YtacpimajiojekaaDoorTC
import Derived.Deep.RegionHeld3
import Derived.Deep.DeepCutAuto
import Derived.RegionTactic
import Derived.BigRegion
import Derived.WalkLawsBesides
import Derived.WalkSpells
import Derived.Lib.MinMax
import Derived.Outline
namespace Go.Proofs.YtacpimajiojekaaDoor
open Go.RowKit
attribute [local go_sem] ExtOf.cell ExtOf.frozen

set_option maxHeartbeats 3200000 in
theorem l_szChange (y k : Int) (co ot la te : ByteArray) (w : World) (h1 : co.size ≤ 9223372036854775807) (h2 : ot.size ≤ 9223372036854775807) (h3 : la.size ≤ 9223372036854775807) (h4 : te.size ≤ 9223372036854775807) :
    Calls Tryd.prog 29 #[.agg #[.int .i64 y, .int .i64 k, .string co, .string ot, .string la, .string te], .int .i64 1048576] w
      fun e w' => (∃ z : Int, e = .returned (.int .i64 z) ∧ (z = -1 ∨ (0 ≤ z ∧ co.size ≤ 1048576 ∧ ot.size ≤ 1048576 ∧ la.size ≤ 1048576 ∧ te.size ≤ 1048576))) ∧ Ext w w' := by
  go_enter Tryd.func29, Tryd.ntmps29
  by_cases c1 : (1048576 : Int) - co.size < 0
  · go_wp2
    go_ret
    exact ⟨⟨_, rfl, .inl rfl⟩, by (repeat (first | with_reducible exact Ext.refl _ | with_reducible assumption | ((with_reducible apply Src.ext); with_reducible assumption) | with_reducible refine Ext.alloc ?_ _ | with_reducible refine Ext.drew ?_ | with_reducible refine Ext.drewN ?_ _ | ((with_reducible refine Ext.setCell' ?_ ?_ _); solve | omega | simp | (simp; omega)) | (with_reducible refine Ext.trans ?_ (by with_reducible assumption))))⟩
  · by_cases c2 : (1048576 : Int) - co.size - ot.size < 0
    · go_wp2
      go_ret
      exact ⟨⟨_, rfl, .inl rfl⟩, by (repeat (first | with_reducible exact Ext.refl _ | with_reducible assumption | ((with_reducible apply Src.ext); with_reducible assumption) | with_reducible refine Ext.alloc ?_ _ | with_reducible refine Ext.drew ?_ | with_reducible refine Ext.drewN ?_ _ | ((with_reducible refine Ext.setCell' ?_ ?_ _); solve | omega | simp | (simp; omega)) | (with_reducible refine Ext.trans ?_ (by with_reducible assumption))))⟩
    · by_cases c3 : (1048576 : Int) - co.size - ot.size - la.size < 0
      · go_wp2
        go_ret
        exact ⟨⟨_, rfl, .inl rfl⟩, by (repeat (first | with_reducible exact Ext.refl _ | with_reducible assumption | ((with_reducible apply Src.ext); with_reducible assumption) | with_reducible refine Ext.alloc ?_ _ | with_reducible refine Ext.drew ?_ | with_reducible refine Ext.drewN ?_ _ | ((with_reducible refine Ext.setCell' ?_ ?_ _); solve | omega | simp | (simp; omega)) | (with_reducible refine Ext.trans ?_ (by with_reducible assumption))))⟩
      · by_cases c4 : (1048576 : Int) - co.size - ot.size - la.size - te.size < 0
        · go_wp2
          go_ret
          exact ⟨⟨_, rfl, .inl rfl⟩, by (repeat (first | with_reducible exact Ext.refl _ | with_reducible assumption | ((with_reducible apply Src.ext); with_reducible assumption) | with_reducible refine Ext.alloc ?_ _ | with_reducible refine Ext.drew ?_ | with_reducible refine Ext.drewN ?_ _ | ((with_reducible refine Ext.setCell' ?_ ?_ _); solve | omega | simp | (simp; omega)) | (with_reducible refine Ext.trans ?_ (by with_reducible assumption))))⟩
        · go_wp2
          go_ret
          exact ⟨⟨_, rfl, .inr ⟨by omega, by omega, by omega, by omega, by omega⟩⟩, by (repeat (first | with_reducible exact Ext.refl _ | with_reducible assumption | ((with_reducible apply Src.ext); with_reducible assumption) | with_reducible refine Ext.alloc ?_ _ | with_reducible refine Ext.drew ?_ | with_reducible refine Ext.drewN ?_ _ | ((with_reducible refine Ext.setCell' ?_ ?_ _); solve | omega | simp | (simp; omega)) | (with_reducible refine Ext.trans ?_ (by with_reducible assumption))))⟩
set_option maxHeartbeats 3200000 in
theorem l_toChange (y k : Int) (co ot la te : ByteArray) (w : World) :
    Calls Tryd.prog 31 #[.agg #[.int .i64 y, .int .i64 k, .string co, .string ot, .string la, .string te]] w
      fun e w' => e = .returned (.agg #[.int .i64 y, .int .i64 k, .string co, .string ot, .string la, .string te]) ∧ Ext w w' := by
  go_enter Tryd.func31, Tryd.ntmps31
  go_wp2
  refine bodyPost_ret (v := .agg #[.int .i64 y, .int .i64 k, .string co, .string ot, .string la, .string te]) (by simp [results, Tryd.results31, go_sem]) rfl ⟨rfl, ?_⟩
  (repeat (first | with_reducible exact Ext.refl _ | with_reducible assumption | ((with_reducible apply Src.ext); with_reducible assumption) | with_reducible refine Ext.alloc ?_ _ | with_reducible refine Ext.drew ?_ | with_reducible refine Ext.drewN ?_ _ | ((with_reducible refine Ext.setCell' ?_ ?_ _); solve | omega | simp | (simp; omega)) | (with_reducible refine Ext.trans ?_ (by with_reducible assumption))))
set_option maxHeartbeats 3200000 in
theorem fnExactIsChange_walk (y k : Int) (co ot la te : ByteArray) (w : World) (h1 : co.size ≤ maxLen) (h2 : ot.size ≤ maxLen) (h3 : la.size ≤ maxLen) (h4 : te.size ≤ maxLen) (hm : Mx w) :
    Calls Tryd.prog 8 #[.agg #[.int .i64 y, .int .i64 k, .string co, .string ot, .string la, .string te]] w fun e w' => e = .returned (.bool true) ∧ Ext w w' := by
  have HM := Lib.hid hm
  unfold maxLen at h1 h2 h3 h4
  have HZ := Lib.hid fun W => l_szChange y k co ot la te W (by omega) (by omega) (by omega) (by omega)
  clear hm h1 h2 h3 h4
  go_enter Tryd.func8, Tryd.ntmps8
  go_wp2_with fail
  refine (HZ.out _).mono ?_
  rintro e w1 ⟨⟨z, rfl, hz⟩, hx1⟩
  obtain ⟨hc1, hf1⟩ := hx1.rules
  have hs1 := hx1.size
  (try simp at hs1)
  have := (show w.heap.size < w1.heap.size from by omega)
  rcases hz with rfl | ⟨hz0, b1, b2, b3, b4⟩
  · go_wp2
    go_ret
    exact ⟨rfl, by (repeat (first | with_reducible exact Ext.refl _ | with_reducible assumption | ((with_reducible apply Src.ext); with_reducible assumption) | with_reducible refine Ext.alloc ?_ _ | with_reducible refine Ext.drew ?_ | with_reducible refine Ext.drewN ?_ _ | ((with_reducible refine Ext.setCell' ?_ ?_ _); solve | omega | simp | (simp; omega)) | (with_reducible refine Ext.trans ?_ (by with_reducible assumption))))⟩
  · have HS := Lib.hid fun W => s_IsChange y k co ot la te W b1 b2 b3 b4
    have HI := Lib.hid fun W => i_IsChange y k co ot la te W b1 b2 b3 b4
    generalize chB y k co ot la te = q at *
    have hq : (q != q) = false := by simp
    clear HZ b1 b2 b3 b4
    (go_wp2_with fail; refine (l_toChange _ _ _ _ _ _ _).mono ?_; rintro e w2 ⟨rfl, hx2⟩; obtain ⟨hc2, hf2⟩ := hx2.rules; have hs2 := hx2.size; (try simp at hs2); have := (show w.heap.size < w2.heap.size from by omega))
    (go_wp2_with fail; refine (HS.out _).mono ?_; rintro e w3 ⟨rfl, hx3⟩; obtain ⟨hc3, hf3⟩ := hx3.rules; have hs3 := hx3.size; (try simp at hs3); have := (show w.heap.size < w3.heap.size from by omega))
    (go_wp2_with fail; refine (l_toChange _ _ _ _ _ _ _).mono ?_; rintro e w4 ⟨rfl, hx4⟩; obtain ⟨hc4, hf4⟩ := hx4.rules; have hs4 := hx4.size; (try simp at hs4); have := (show w.heap.size < w4.heap.size from by omega))
    (go_wp2_with fail; refine (HI.out _ (HM.out.ext (by (repeat (first | with_reducible exact Ext.refl _ | with_reducible assumption | ((with_reducible apply Src.ext); with_reducible assumption) | with_reducible refine Ext.alloc ?_ _ | with_reducible refine Ext.drew ?_ | with_reducible refine Ext.drewN ?_ _ | ((with_reducible refine Ext.setCell' ?_ ?_ _); solve | omega | simp | (simp; omega)) | (with_reducible refine Ext.trans ?_ (by with_reducible assumption))))))).mono ?_; rintro e w5 ⟨rfl, hx5⟩; obtain ⟨hc5, hf5⟩ := hx5.rules; have hs5 := hx5.size; (try simp at hs5))
    go_wp2
    go_ret
    exact ⟨rfl, by (repeat (first | with_reducible exact Ext.refl _ | with_reducible assumption | ((with_reducible apply Src.ext); with_reducible assumption) | with_reducible refine Ext.alloc ?_ _ | with_reducible refine Ext.drew ?_ | with_reducible refine Ext.drewN ?_ _ | ((with_reducible refine Ext.setCell' ?_ ?_ _); solve | omega | simp | (simp; omega)) | (with_reducible refine Ext.trans ?_ (by with_reducible assumption))))⟩
end Go.Proofs.YtacpimajiojekaaDoor
