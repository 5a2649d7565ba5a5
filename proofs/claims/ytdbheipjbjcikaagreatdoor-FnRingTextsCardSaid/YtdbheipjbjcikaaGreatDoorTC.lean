/- Contracts of changes, walked over the translation. -/
import Derived.Test.YtdbheipjbjcikaaGreatDoorTS
import Derived.Deep.RegionHeld3
import Derived.Deep.DeepCutAuto
import Derived.RegionTactic
import Derived.BigRegion
import Derived.WalkLawsBesides
import Derived.WalkSpells
import Derived.Lib.MinMax
import Derived.Outline
namespace Go.Proofs.YtdbheipjbjcikaaGreatDoor
open Go.RowKit
attribute [local go_sem] ExtOf.cell ExtOf.frozen

/-- what makes a change valid -/
def chB (y k : Int) (co ot la te : ByteArray) : Bool :=
  inB y (-2999) 3000 && (inB k 0 3 && (smB co 1 16 && ((if (k == 2) = true ∨ (k == 3) = true then (smB ot 1 16 && !(ot.toList == co.toList)) else ot.toList.isEmpty) &&
    (if (k == 0) = true then (smL la.data.toList 2 3 && phB te.data.toList) else (la.toList.isEmpty && te.toList.isEmpty)))))

set_option maxRecDepth 20000 in
set_option maxHeartbeats 12800000 in
theorem i_IsChange (y k : Int) (co ot la te : ByteArray) (w : World) (h1 : co.size ≤ 1048576) (h2 : ot.size ≤ 1048576) (h3 : la.size ≤ 1048576) (h4 : te.size ≤ 1048576) (hm : Mx w) :
    Calls Tryz.prog 28 #[.agg #[.int .i64 y, .int .i64 k, .string co, .string ot, .string la, .string te]] w fun e w' => e = .returned (.bool (chB y k co ot la te)) ∧ Ext w w' := by
  have HM := Lib.hid hm
  clear hm
  cases hk : inB k 0 3 with
  | false =>
    rw [show chB y k co ot la te = false by unfold chB; rw [hk, Bool.false_and, Bool.and_false]]
    go_enter Tryz.func28, Tryz.ntmps28
    go_wp2_with (first | (go_at_call 73; refine (within_any _ _ _ _).mono ?_; rintro e w' ⟨rfl, rfl⟩) | (go_at_call 80; refine (i_IsWord _ _ (by omega)).mono ?_; rintro e w1 ⟨rfl, hx1⟩; obtain ⟨hc1, hf1⟩ := hx1.rules; have hs1 := hx1.size; (try simp at hs1); have := (show w.heap.size < w1.heap.size from by omega)) | (go_at_call 82; refine (i_isLanguage _ _ (by omega)).mono ?_; rintro e w2 ⟨rfl, hx2⟩; obtain ⟨hc2, hf2⟩ := hx2.rules; have hs2 := hx2.size; (try simp at hs2); have := (show w.heap.size < w2.heap.size from by omega)) | (go_at_call 83; refine (i_IsPhrase _ _ (by omega) (HM.out.ext (by (repeat (first | with_reducible exact Ext.refl _ | with_reducible assumption | ((with_reducible apply Src.ext); with_reducible assumption) | with_reducible refine Ext.alloc ?_ _ | with_reducible refine Ext.drew ?_ | with_reducible refine Ext.drewN ?_ _ | ((with_reducible refine Ext.setCell' ?_ ?_ _); solve | omega | simp | (simp; omega)) | (with_reducible refine Ext.trans ?_ (by with_reducible assumption))))))).mono ?_; rintro e w3 ⟨rfl, hx3⟩; obtain ⟨hc3, hf3⟩ := hx3.rules; have hs3 := hx3.size; (try simp at hs3); have := (show w.heap.size < w3.heap.size from by omega)) | go_in)
    all_goals go_ret
    all_goals exact ⟨rfl, by (repeat (first | with_reducible exact Ext.refl _ | with_reducible assumption | ((with_reducible apply Src.ext); with_reducible assumption) | with_reducible refine Ext.alloc ?_ _ | with_reducible refine Ext.drew ?_ | with_reducible refine Ext.drewN ?_ _ | ((with_reducible refine Ext.setCell' ?_ ?_ _); solve | omega | simp | (simp; omega)) | (with_reducible refine Ext.trans ?_ (by with_reducible assumption))))⟩
  | true =>
    have hk4 : k = 0 ∨ k = 1 ∨ k = 2 ∨ k = 3 := by simp [inB] at hk; omega
    rcases hk4 with rfl | rfl | rfl | rfl
    · rw [show chB y 0 co ot la te = (inB y (-2999) 3000 && (smB co 1 16 && (ot.toList.isEmpty && (smL la.data.toList 2 3 && phB te.data.toList)))) by unfold chB; rw [hk]; simp]
      go_enter Tryz.func28, Tryz.ntmps28
      go_wp2_with (first | (go_at_call 73; refine (within_any _ _ _ _).mono ?_; rintro e w' ⟨rfl, rfl⟩) | (go_at_call 80; refine (i_IsWord _ _ (by omega)).mono ?_; rintro e w1 ⟨rfl, hx1⟩; obtain ⟨hc1, hf1⟩ := hx1.rules; have hs1 := hx1.size; (try simp at hs1); have := (show w.heap.size < w1.heap.size from by omega)) | (go_at_call 82; refine (i_isLanguage _ _ (by omega)).mono ?_; rintro e w2 ⟨rfl, hx2⟩; obtain ⟨hc2, hf2⟩ := hx2.rules; have hs2 := hx2.size; (try simp at hs2); have := (show w.heap.size < w2.heap.size from by omega)) | (go_at_call 83; refine (i_IsPhrase _ _ (by omega) (HM.out.ext (by (repeat (first | with_reducible exact Ext.refl _ | with_reducible assumption | ((with_reducible apply Src.ext); with_reducible assumption) | with_reducible refine Ext.alloc ?_ _ | with_reducible refine Ext.drew ?_ | with_reducible refine Ext.drewN ?_ _ | ((with_reducible refine Ext.setCell' ?_ ?_ _); solve | omega | simp | (simp; omega)) | (with_reducible refine Ext.trans ?_ (by with_reducible assumption))))))).mono ?_; rintro e w3 ⟨rfl, hx3⟩; obtain ⟨hc3, hf3⟩ := hx3.rules; have hs3 := hx3.size; (try simp at hs3); have := (show w.heap.size < w3.heap.size from by omega)) | go_in)
      all_goals go_ret
      all_goals refine ⟨ret_bool' ?_, by (repeat (first | with_reducible exact Ext.refl _ | with_reducible assumption | ((with_reducible apply Src.ext); with_reducible assumption) | with_reducible refine Ext.alloc ?_ _ | with_reducible refine Ext.drew ?_ | with_reducible refine Ext.drewN ?_ _ | ((with_reducible refine Ext.setCell' ?_ ?_ _); solve | omega | simp | (simp; omega)) | (with_reducible refine Ext.trans ?_ (by with_reducible assumption))))⟩
      all_goals (try simp only [Bool.not_eq_true', Bool.not_eq_false'] at *)
      all_goals (try simp [*])
    · rw [show chB y 1 co ot la te = (inB y (-2999) 3000 && (smB co 1 16 && (ot.toList.isEmpty && (la.toList.isEmpty && te.toList.isEmpty)))) by unfold chB; rw [hk]; simp]
      go_enter Tryz.func28, Tryz.ntmps28
      go_wp2_with (first | (go_at_call 73; refine (within_any _ _ _ _).mono ?_; rintro e w' ⟨rfl, rfl⟩) | (go_at_call 80; refine (i_IsWord _ _ (by omega)).mono ?_; rintro e w1 ⟨rfl, hx1⟩; obtain ⟨hc1, hf1⟩ := hx1.rules; have hs1 := hx1.size; (try simp at hs1); have := (show w.heap.size < w1.heap.size from by omega)) | (go_at_call 82; refine (i_isLanguage _ _ (by omega)).mono ?_; rintro e w2 ⟨rfl, hx2⟩; obtain ⟨hc2, hf2⟩ := hx2.rules; have hs2 := hx2.size; (try simp at hs2); have := (show w.heap.size < w2.heap.size from by omega)) | (go_at_call 83; refine (i_IsPhrase _ _ (by omega) (HM.out.ext (by (repeat (first | with_reducible exact Ext.refl _ | with_reducible assumption | ((with_reducible apply Src.ext); with_reducible assumption) | with_reducible refine Ext.alloc ?_ _ | with_reducible refine Ext.drew ?_ | with_reducible refine Ext.drewN ?_ _ | ((with_reducible refine Ext.setCell' ?_ ?_ _); solve | omega | simp | (simp; omega)) | (with_reducible refine Ext.trans ?_ (by with_reducible assumption))))))).mono ?_; rintro e w3 ⟨rfl, hx3⟩; obtain ⟨hc3, hf3⟩ := hx3.rules; have hs3 := hx3.size; (try simp at hs3); have := (show w.heap.size < w3.heap.size from by omega)) | go_in)
      all_goals go_ret
      all_goals refine ⟨ret_bool' ?_, by (repeat (first | with_reducible exact Ext.refl _ | with_reducible assumption | ((with_reducible apply Src.ext); with_reducible assumption) | with_reducible refine Ext.alloc ?_ _ | with_reducible refine Ext.drew ?_ | with_reducible refine Ext.drewN ?_ _ | ((with_reducible refine Ext.setCell' ?_ ?_ _); solve | omega | simp | (simp; omega)) | (with_reducible refine Ext.trans ?_ (by with_reducible assumption))))⟩
      all_goals (try simp only [Bool.not_eq_true', Bool.not_eq_false'] at *)
      all_goals (try simp [*])
    · rw [show chB y 2 co ot la te = (inB y (-2999) 3000 && (smB co 1 16 && ((smB ot 1 16 && !(ot.toList == co.toList)) && (la.toList.isEmpty && te.toList.isEmpty)))) by unfold chB; rw [hk]; simp]
      go_enter Tryz.func28, Tryz.ntmps28
      go_wp2_with (first | (go_at_call 73; refine (within_any _ _ _ _).mono ?_; rintro e w' ⟨rfl, rfl⟩) | (go_at_call 80; refine (i_IsWord _ _ (by omega)).mono ?_; rintro e w1 ⟨rfl, hx1⟩; obtain ⟨hc1, hf1⟩ := hx1.rules; have hs1 := hx1.size; (try simp at hs1); have := (show w.heap.size < w1.heap.size from by omega)) | (go_at_call 82; refine (i_isLanguage _ _ (by omega)).mono ?_; rintro e w2 ⟨rfl, hx2⟩; obtain ⟨hc2, hf2⟩ := hx2.rules; have hs2 := hx2.size; (try simp at hs2); have := (show w.heap.size < w2.heap.size from by omega)) | (go_at_call 83; refine (i_IsPhrase _ _ (by omega) (HM.out.ext (by (repeat (first | with_reducible exact Ext.refl _ | with_reducible assumption | ((with_reducible apply Src.ext); with_reducible assumption) | with_reducible refine Ext.alloc ?_ _ | with_reducible refine Ext.drew ?_ | with_reducible refine Ext.drewN ?_ _ | ((with_reducible refine Ext.setCell' ?_ ?_ _); solve | omega | simp | (simp; omega)) | (with_reducible refine Ext.trans ?_ (by with_reducible assumption))))))).mono ?_; rintro e w3 ⟨rfl, hx3⟩; obtain ⟨hc3, hf3⟩ := hx3.rules; have hs3 := hx3.size; (try simp at hs3); have := (show w.heap.size < w3.heap.size from by omega)) | go_in)
      all_goals go_ret
      all_goals refine ⟨ret_bool' ?_, by (repeat (first | with_reducible exact Ext.refl _ | with_reducible assumption | ((with_reducible apply Src.ext); with_reducible assumption) | with_reducible refine Ext.alloc ?_ _ | with_reducible refine Ext.drew ?_ | with_reducible refine Ext.drewN ?_ _ | ((with_reducible refine Ext.setCell' ?_ ?_ _); solve | omega | simp | (simp; omega)) | (with_reducible refine Ext.trans ?_ (by with_reducible assumption))))⟩
      all_goals (try simp only [Bool.not_eq_true', Bool.not_eq_false'] at *)
      all_goals (try simp [*])
    · rw [show chB y 3 co ot la te = (inB y (-2999) 3000 && (smB co 1 16 && ((smB ot 1 16 && !(ot.toList == co.toList)) && (la.toList.isEmpty && te.toList.isEmpty)))) by unfold chB; rw [hk]; simp]
      go_enter Tryz.func28, Tryz.ntmps28
      go_wp2_with (first | (go_at_call 73; refine (within_any _ _ _ _).mono ?_; rintro e w' ⟨rfl, rfl⟩) | (go_at_call 80; refine (i_IsWord _ _ (by omega)).mono ?_; rintro e w1 ⟨rfl, hx1⟩; obtain ⟨hc1, hf1⟩ := hx1.rules; have hs1 := hx1.size; (try simp at hs1); have := (show w.heap.size < w1.heap.size from by omega)) | (go_at_call 82; refine (i_isLanguage _ _ (by omega)).mono ?_; rintro e w2 ⟨rfl, hx2⟩; obtain ⟨hc2, hf2⟩ := hx2.rules; have hs2 := hx2.size; (try simp at hs2); have := (show w.heap.size < w2.heap.size from by omega)) | (go_at_call 83; refine (i_IsPhrase _ _ (by omega) (HM.out.ext (by (repeat (first | with_reducible exact Ext.refl _ | with_reducible assumption | ((with_reducible apply Src.ext); with_reducible assumption) | with_reducible refine Ext.alloc ?_ _ | with_reducible refine Ext.drew ?_ | with_reducible refine Ext.drewN ?_ _ | ((with_reducible refine Ext.setCell' ?_ ?_ _); solve | omega | simp | (simp; omega)) | (with_reducible refine Ext.trans ?_ (by with_reducible assumption))))))).mono ?_; rintro e w3 ⟨rfl, hx3⟩; obtain ⟨hc3, hf3⟩ := hx3.rules; have hs3 := hx3.size; (try simp at hs3); have := (show w.heap.size < w3.heap.size from by omega)) | go_in)
      all_goals go_ret
      all_goals refine ⟨ret_bool' ?_, by (repeat (first | with_reducible exact Ext.refl _ | with_reducible assumption | ((with_reducible apply Src.ext); with_reducible assumption) | with_reducible refine Ext.alloc ?_ _ | with_reducible refine Ext.drew ?_ | with_reducible refine Ext.drewN ?_ _ | ((with_reducible refine Ext.setCell' ?_ ?_ _); solve | omega | simp | (simp; omega)) | (with_reducible refine Ext.trans ?_ (by with_reducible assumption))))⟩
      all_goals (try simp only [Bool.not_eq_true', Bool.not_eq_false'] at *)
      all_goals (try simp [*])

set_option maxRecDepth 20000 in
set_option maxHeartbeats 12800000 in
theorem s_IsChange (y k : Int) (co ot la te : ByteArray) (w : World) (h1 : co.size ≤ 1048576) (h2 : ot.size ≤ 1048576) (h3 : la.size ≤ 1048576) (h4 : te.size ≤ 1048576) :
    Calls Tryz.prog 57 #[.agg #[.int .i64 y, .int .i64 k, .string co, .string ot, .string la, .string te]] w fun e w' => e = .returned (.bool (chB y k co ot la te)) ∧ Ext w w' := by
  cases hk : inB k 0 3 with
  | false =>
    rw [show chB y k co ot la te = false by unfold chB; rw [hk, Bool.false_and, Bool.and_false]]
    go_enter Tryz.func57, Tryz.ntmps57
    go_wp2_with (first | (go_at_call 116; refine (l01In_any _ _ _ _).mono ?_; rintro e w' ⟨rfl, rfl⟩) | (go_at_call 117; refine (s_IsWord _ _ (by omega)).mono ?_; rintro e w1 ⟨rfl, hx1⟩; obtain ⟨hc1, hf1⟩ := hx1.rules; have hs1 := hx1.size; (try simp at hs1); have := (show w.heap.size < w1.heap.size from by omega)) | (go_at_call 118; refine (s_l09Language _ _ (by omega)).mono ?_; rintro e w2 ⟨rfl, hx2⟩; obtain ⟨hc2, hf2⟩ := hx2.rules; have hs2 := hx2.size; (try simp at hs2); have := (show w.heap.size < w2.heap.size from by omega)) | (go_at_call 119; refine (s_IsPhrase _ _ (by omega)).mono ?_; rintro e w3 ⟨rfl, hx3⟩; obtain ⟨hc3, hf3⟩ := hx3.rules; have hs3 := hx3.size; (try simp at hs3); have := (show w.heap.size < w3.heap.size from by omega)))
    all_goals go_ret
    all_goals exact ⟨rfl, by (repeat (first | with_reducible exact Ext.refl _ | with_reducible assumption | ((with_reducible apply Src.ext); with_reducible assumption) | with_reducible refine Ext.alloc ?_ _ | with_reducible refine Ext.drew ?_ | with_reducible refine Ext.drewN ?_ _ | ((with_reducible refine Ext.setCell' ?_ ?_ _); solve | omega | simp | (simp; omega)) | (with_reducible refine Ext.trans ?_ (by with_reducible assumption))))⟩
  | true =>
    have hk4 : k = 0 ∨ k = 1 ∨ k = 2 ∨ k = 3 := by simp [inB] at hk; omega
    rcases hk4 with rfl | rfl | rfl | rfl
    · rw [show chB y 0 co ot la te = (inB y (-2999) 3000 && (smB co 1 16 && (ot.toList.isEmpty && (smL la.data.toList 2 3 && phB te.data.toList)))) by unfold chB; rw [hk]; simp]
      go_enter Tryz.func57, Tryz.ntmps57
      go_wp2_with (first | (go_at_call 116; refine (l01In_any _ _ _ _).mono ?_; rintro e w' ⟨rfl, rfl⟩) | (go_at_call 117; refine (s_IsWord _ _ (by omega)).mono ?_; rintro e w1 ⟨rfl, hx1⟩; obtain ⟨hc1, hf1⟩ := hx1.rules; have hs1 := hx1.size; (try simp at hs1); have := (show w.heap.size < w1.heap.size from by omega)) | (go_at_call 118; refine (s_l09Language _ _ (by omega)).mono ?_; rintro e w2 ⟨rfl, hx2⟩; obtain ⟨hc2, hf2⟩ := hx2.rules; have hs2 := hx2.size; (try simp at hs2); have := (show w.heap.size < w2.heap.size from by omega)) | (go_at_call 119; refine (s_IsPhrase _ _ (by omega)).mono ?_; rintro e w3 ⟨rfl, hx3⟩; obtain ⟨hc3, hf3⟩ := hx3.rules; have hs3 := hx3.size; (try simp at hs3); have := (show w.heap.size < w3.heap.size from by omega)))
      all_goals go_ret
      all_goals refine ⟨ret_bool' ?_, by (repeat (first | with_reducible exact Ext.refl _ | with_reducible assumption | ((with_reducible apply Src.ext); with_reducible assumption) | with_reducible refine Ext.alloc ?_ _ | with_reducible refine Ext.drew ?_ | with_reducible refine Ext.drewN ?_ _ | ((with_reducible refine Ext.setCell' ?_ ?_ _); solve | omega | simp | (simp; omega)) | (with_reducible refine Ext.trans ?_ (by with_reducible assumption))))⟩
      all_goals (try simp only [Bool.not_eq_true', Bool.not_eq_false'] at *)
      all_goals (try simp [*])
    · rw [show chB y 1 co ot la te = (inB y (-2999) 3000 && (smB co 1 16 && (ot.toList.isEmpty && (la.toList.isEmpty && te.toList.isEmpty)))) by unfold chB; rw [hk]; simp]
      go_enter Tryz.func57, Tryz.ntmps57
      go_wp2_with (first | (go_at_call 116; refine (l01In_any _ _ _ _).mono ?_; rintro e w' ⟨rfl, rfl⟩) | (go_at_call 117; refine (s_IsWord _ _ (by omega)).mono ?_; rintro e w1 ⟨rfl, hx1⟩; obtain ⟨hc1, hf1⟩ := hx1.rules; have hs1 := hx1.size; (try simp at hs1); have := (show w.heap.size < w1.heap.size from by omega)) | (go_at_call 118; refine (s_l09Language _ _ (by omega)).mono ?_; rintro e w2 ⟨rfl, hx2⟩; obtain ⟨hc2, hf2⟩ := hx2.rules; have hs2 := hx2.size; (try simp at hs2); have := (show w.heap.size < w2.heap.size from by omega)) | (go_at_call 119; refine (s_IsPhrase _ _ (by omega)).mono ?_; rintro e w3 ⟨rfl, hx3⟩; obtain ⟨hc3, hf3⟩ := hx3.rules; have hs3 := hx3.size; (try simp at hs3); have := (show w.heap.size < w3.heap.size from by omega)))
      all_goals go_ret
      all_goals refine ⟨ret_bool' ?_, by (repeat (first | with_reducible exact Ext.refl _ | with_reducible assumption | ((with_reducible apply Src.ext); with_reducible assumption) | with_reducible refine Ext.alloc ?_ _ | with_reducible refine Ext.drew ?_ | with_reducible refine Ext.drewN ?_ _ | ((with_reducible refine Ext.setCell' ?_ ?_ _); solve | omega | simp | (simp; omega)) | (with_reducible refine Ext.trans ?_ (by with_reducible assumption))))⟩
      all_goals (try simp only [Bool.not_eq_true', Bool.not_eq_false'] at *)
      all_goals (try simp [*])
    · rw [show chB y 2 co ot la te = (inB y (-2999) 3000 && (smB co 1 16 && ((smB ot 1 16 && !(ot.toList == co.toList)) && (la.toList.isEmpty && te.toList.isEmpty)))) by unfold chB; rw [hk]; simp]
      go_enter Tryz.func57, Tryz.ntmps57
      go_wp2_with (first | (go_at_call 116; refine (l01In_any _ _ _ _).mono ?_; rintro e w' ⟨rfl, rfl⟩) | (go_at_call 117; refine (s_IsWord _ _ (by omega)).mono ?_; rintro e w1 ⟨rfl, hx1⟩; obtain ⟨hc1, hf1⟩ := hx1.rules; have hs1 := hx1.size; (try simp at hs1); have := (show w.heap.size < w1.heap.size from by omega)) | (go_at_call 118; refine (s_l09Language _ _ (by omega)).mono ?_; rintro e w2 ⟨rfl, hx2⟩; obtain ⟨hc2, hf2⟩ := hx2.rules; have hs2 := hx2.size; (try simp at hs2); have := (show w.heap.size < w2.heap.size from by omega)) | (go_at_call 119; refine (s_IsPhrase _ _ (by omega)).mono ?_; rintro e w3 ⟨rfl, hx3⟩; obtain ⟨hc3, hf3⟩ := hx3.rules; have hs3 := hx3.size; (try simp at hs3); have := (show w.heap.size < w3.heap.size from by omega)))
      all_goals go_ret
      all_goals refine ⟨ret_bool' ?_, by (repeat (first | with_reducible exact Ext.refl _ | with_reducible assumption | ((with_reducible apply Src.ext); with_reducible assumption) | with_reducible refine Ext.alloc ?_ _ | with_reducible refine Ext.drew ?_ | with_reducible refine Ext.drewN ?_ _ | ((with_reducible refine Ext.setCell' ?_ ?_ _); solve | omega | simp | (simp; omega)) | (with_reducible refine Ext.trans ?_ (by with_reducible assumption))))⟩
      all_goals (try simp only [Bool.not_eq_true', Bool.not_eq_false'] at *)
      all_goals (try simp [*])
    · rw [show chB y 3 co ot la te = (inB y (-2999) 3000 && (smB co 1 16 && ((smB ot 1 16 && !(ot.toList == co.toList)) && (la.toList.isEmpty && te.toList.isEmpty)))) by unfold chB; rw [hk]; simp]
      go_enter Tryz.func57, Tryz.ntmps57
      go_wp2_with (first | (go_at_call 116; refine (l01In_any _ _ _ _).mono ?_; rintro e w' ⟨rfl, rfl⟩) | (go_at_call 117; refine (s_IsWord _ _ (by omega)).mono ?_; rintro e w1 ⟨rfl, hx1⟩; obtain ⟨hc1, hf1⟩ := hx1.rules; have hs1 := hx1.size; (try simp at hs1); have := (show w.heap.size < w1.heap.size from by omega)) | (go_at_call 118; refine (s_l09Language _ _ (by omega)).mono ?_; rintro e w2 ⟨rfl, hx2⟩; obtain ⟨hc2, hf2⟩ := hx2.rules; have hs2 := hx2.size; (try simp at hs2); have := (show w.heap.size < w2.heap.size from by omega)) | (go_at_call 119; refine (s_IsPhrase _ _ (by omega)).mono ?_; rintro e w3 ⟨rfl, hx3⟩; obtain ⟨hc3, hf3⟩ := hx3.rules; have hs3 := hx3.size; (try simp at hs3); have := (show w.heap.size < w3.heap.size from by omega)))
      all_goals go_ret
      all_goals refine ⟨ret_bool' ?_, by (repeat (first | with_reducible exact Ext.refl _ | with_reducible assumption | ((with_reducible apply Src.ext); with_reducible assumption) | with_reducible refine Ext.alloc ?_ _ | with_reducible refine Ext.drew ?_ | with_reducible refine Ext.drewN ?_ _ | ((with_reducible refine Ext.setCell' ?_ ?_ _); solve | omega | simp | (simp; omega)) | (with_reducible refine Ext.trans ?_ (by with_reducible assumption))))⟩
      all_goals (try simp only [Bool.not_eq_true', Bool.not_eq_false'] at *)
      all_goals (try simp [*])

end Go.Proofs.YtdbheipjbjcikaaGreatDoor
