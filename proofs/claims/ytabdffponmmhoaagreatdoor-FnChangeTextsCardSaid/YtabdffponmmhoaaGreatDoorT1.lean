/- Contracts of changes, walked over the translation. The law of IsChange, walked over the translation. Contracts of ChangeText, walked over the translation. -/
import Derived.Test.YtabdffponmmhoaaGreatDoorGT
import Derived.Deep.RegionHeld3
import Derived.Deep.DeepCutAuto
import Derived.RegionTactic
import Derived.BigRegion
import Derived.WalkLawsBesides
import Derived.WalkSpells
import Derived.Lib.MinMax
import Derived.Outline
namespace Go.Proofs.YtabdffponmmhoaaGreatDoor
open Go.RowKit
attribute [local go_sem] ExtOf.cell ExtOf.frozen

/-- what makes a change valid -/
def chB (y k : Int) (co ot la te : ByteArray) : Bool :=
  inB y (-2999) 3000 && (inB k 0 3 && (smB co 1 16 && ((if (k == 2) = true ∨ (k == 3) = true then (smB ot 1 16 && !(ot.toList == co.toList)) else ot.toList.isEmpty) &&
    (if (k == 0) = true then (smL la.data.toList 2 3 && phB te.data.toList) else (la.toList.isEmpty && te.toList.isEmpty)))))

set_option maxRecDepth 20000 in
set_option maxHeartbeats 12800000 in
theorem i_IsChange (y k : Int) (co ot la te : ByteArray) (w : World) (h1 : co.size ≤ 1048576) (h2 : ot.size ≤ 1048576) (h3 : la.size ≤ 1048576) (h4 : te.size ≤ 1048576) (hm : Mx w) :
    Calls Tryz.prog 26 #[.agg #[.int .i64 y, .int .i64 k, .string co, .string ot, .string la, .string te]] w fun e w' => e = .returned (.bool (chB y k co ot la te)) ∧ Ext w w' := by
  have HM := Lib.hid hm
  clear hm
  cases hk : inB k 0 3 with
  | false =>
    rw [show chB y k co ot la te = false by unfold chB; rw [hk, Bool.false_and, Bool.and_false]]
    go_enter Tryz.func26, Tryz.ntmps26
    go_wp2_with (first | (go_at_call 57; refine (within_any _ _ _ _).mono ?_; rintro e w' ⟨rfl, rfl⟩) | (go_at_call 58; refine (i_IsWord _ _ (by omega)).mono ?_; rintro e w1 ⟨rfl, hx1⟩; obtain ⟨hc1, hf1⟩ := hx1.rules; have hs1 := hx1.size; (try simp at hs1); have := (show w.heap.size < w1.heap.size from by omega)) | (go_at_call 60; refine (i_isLanguage _ _ (by omega)).mono ?_; rintro e w2 ⟨rfl, hx2⟩; obtain ⟨hc2, hf2⟩ := hx2.rules; have hs2 := hx2.size; (try simp at hs2); have := (show w.heap.size < w2.heap.size from by omega)) | (go_at_call 61; refine (i_IsPhrase _ _ (by omega) (HM.out.ext (by (repeat (first | with_reducible exact Ext.refl _ | with_reducible assumption | ((with_reducible apply Src.ext); with_reducible assumption) | with_reducible refine Ext.alloc ?_ _ | with_reducible refine Ext.drew ?_ | with_reducible refine Ext.drewN ?_ _ | ((with_reducible refine Ext.setCell' ?_ ?_ _); solve | omega | simp | (simp; omega)) | (with_reducible refine Ext.trans ?_ (by with_reducible assumption))))))).mono ?_; rintro e w3 ⟨rfl, hx3⟩; obtain ⟨hc3, hf3⟩ := hx3.rules; have hs3 := hx3.size; (try simp at hs3); have := (show w.heap.size < w3.heap.size from by omega)) | go_in)
    all_goals go_ret
    all_goals exact ⟨rfl, by (repeat (first | with_reducible exact Ext.refl _ | with_reducible assumption | ((with_reducible apply Src.ext); with_reducible assumption) | with_reducible refine Ext.alloc ?_ _ | with_reducible refine Ext.drew ?_ | with_reducible refine Ext.drewN ?_ _ | ((with_reducible refine Ext.setCell' ?_ ?_ _); solve | omega | simp | (simp; omega)) | (with_reducible refine Ext.trans ?_ (by with_reducible assumption))))⟩
  | true =>
    have hk4 : k = 0 ∨ k = 1 ∨ k = 2 ∨ k = 3 := by simp [inB] at hk; omega
    rcases hk4 with rfl | rfl | rfl | rfl
    · rw [show chB y 0 co ot la te = (inB y (-2999) 3000 && (smB co 1 16 && (ot.toList.isEmpty && (smL la.data.toList 2 3 && phB te.data.toList)))) by unfold chB; rw [hk]; simp]
      go_enter Tryz.func26, Tryz.ntmps26
      go_wp2_with (first | (go_at_call 57; refine (within_any _ _ _ _).mono ?_; rintro e w' ⟨rfl, rfl⟩) | (go_at_call 58; refine (i_IsWord _ _ (by omega)).mono ?_; rintro e w1 ⟨rfl, hx1⟩; obtain ⟨hc1, hf1⟩ := hx1.rules; have hs1 := hx1.size; (try simp at hs1); have := (show w.heap.size < w1.heap.size from by omega)) | (go_at_call 60; refine (i_isLanguage _ _ (by omega)).mono ?_; rintro e w2 ⟨rfl, hx2⟩; obtain ⟨hc2, hf2⟩ := hx2.rules; have hs2 := hx2.size; (try simp at hs2); have := (show w.heap.size < w2.heap.size from by omega)) | (go_at_call 61; refine (i_IsPhrase _ _ (by omega) (HM.out.ext (by (repeat (first | with_reducible exact Ext.refl _ | with_reducible assumption | ((with_reducible apply Src.ext); with_reducible assumption) | with_reducible refine Ext.alloc ?_ _ | with_reducible refine Ext.drew ?_ | with_reducible refine Ext.drewN ?_ _ | ((with_reducible refine Ext.setCell' ?_ ?_ _); solve | omega | simp | (simp; omega)) | (with_reducible refine Ext.trans ?_ (by with_reducible assumption))))))).mono ?_; rintro e w3 ⟨rfl, hx3⟩; obtain ⟨hc3, hf3⟩ := hx3.rules; have hs3 := hx3.size; (try simp at hs3); have := (show w.heap.size < w3.heap.size from by omega)) | go_in)
      all_goals go_ret
      all_goals refine ⟨ret_bool' ?_, by (repeat (first | with_reducible exact Ext.refl _ | with_reducible assumption | ((with_reducible apply Src.ext); with_reducible assumption) | with_reducible refine Ext.alloc ?_ _ | with_reducible refine Ext.drew ?_ | with_reducible refine Ext.drewN ?_ _ | ((with_reducible refine Ext.setCell' ?_ ?_ _); solve | omega | simp | (simp; omega)) | (with_reducible refine Ext.trans ?_ (by with_reducible assumption))))⟩
      all_goals (try simp only [Bool.not_eq_true', Bool.not_eq_false'] at *)
      all_goals (try simp [*])
    · rw [show chB y 1 co ot la te = (inB y (-2999) 3000 && (smB co 1 16 && (ot.toList.isEmpty && (la.toList.isEmpty && te.toList.isEmpty)))) by unfold chB; rw [hk]; simp]
      go_enter Tryz.func26, Tryz.ntmps26
      go_wp2_with (first | (go_at_call 57; refine (within_any _ _ _ _).mono ?_; rintro e w' ⟨rfl, rfl⟩) | (go_at_call 58; refine (i_IsWord _ _ (by omega)).mono ?_; rintro e w1 ⟨rfl, hx1⟩; obtain ⟨hc1, hf1⟩ := hx1.rules; have hs1 := hx1.size; (try simp at hs1); have := (show w.heap.size < w1.heap.size from by omega)) | (go_at_call 60; refine (i_isLanguage _ _ (by omega)).mono ?_; rintro e w2 ⟨rfl, hx2⟩; obtain ⟨hc2, hf2⟩ := hx2.rules; have hs2 := hx2.size; (try simp at hs2); have := (show w.heap.size < w2.heap.size from by omega)) | (go_at_call 61; refine (i_IsPhrase _ _ (by omega) (HM.out.ext (by (repeat (first | with_reducible exact Ext.refl _ | with_reducible assumption | ((with_reducible apply Src.ext); with_reducible assumption) | with_reducible refine Ext.alloc ?_ _ | with_reducible refine Ext.drew ?_ | with_reducible refine Ext.drewN ?_ _ | ((with_reducible refine Ext.setCell' ?_ ?_ _); solve | omega | simp | (simp; omega)) | (with_reducible refine Ext.trans ?_ (by with_reducible assumption))))))).mono ?_; rintro e w3 ⟨rfl, hx3⟩; obtain ⟨hc3, hf3⟩ := hx3.rules; have hs3 := hx3.size; (try simp at hs3); have := (show w.heap.size < w3.heap.size from by omega)) | go_in)
      all_goals go_ret
      all_goals refine ⟨ret_bool' ?_, by (repeat (first | with_reducible exact Ext.refl _ | with_reducible assumption | ((with_reducible apply Src.ext); with_reducible assumption) | with_reducible refine Ext.alloc ?_ _ | with_reducible refine Ext.drew ?_ | with_reducible refine Ext.drewN ?_ _ | ((with_reducible refine Ext.setCell' ?_ ?_ _); solve | omega | simp | (simp; omega)) | (with_reducible refine Ext.trans ?_ (by with_reducible assumption))))⟩
      all_goals (try simp only [Bool.not_eq_true', Bool.not_eq_false'] at *)
      all_goals (try simp [*])
    · rw [show chB y 2 co ot la te = (inB y (-2999) 3000 && (smB co 1 16 && ((smB ot 1 16 && !(ot.toList == co.toList)) && (la.toList.isEmpty && te.toList.isEmpty)))) by unfold chB; rw [hk]; simp]
      go_enter Tryz.func26, Tryz.ntmps26
      go_wp2_with (first | (go_at_call 57; refine (within_any _ _ _ _).mono ?_; rintro e w' ⟨rfl, rfl⟩) | (go_at_call 58; refine (i_IsWord _ _ (by omega)).mono ?_; rintro e w1 ⟨rfl, hx1⟩; obtain ⟨hc1, hf1⟩ := hx1.rules; have hs1 := hx1.size; (try simp at hs1); have := (show w.heap.size < w1.heap.size from by omega)) | (go_at_call 60; refine (i_isLanguage _ _ (by omega)).mono ?_; rintro e w2 ⟨rfl, hx2⟩; obtain ⟨hc2, hf2⟩ := hx2.rules; have hs2 := hx2.size; (try simp at hs2); have := (show w.heap.size < w2.heap.size from by omega)) | (go_at_call 61; refine (i_IsPhrase _ _ (by omega) (HM.out.ext (by (repeat (first | with_reducible exact Ext.refl _ | with_reducible assumption | ((with_reducible apply Src.ext); with_reducible assumption) | with_reducible refine Ext.alloc ?_ _ | with_reducible refine Ext.drew ?_ | with_reducible refine Ext.drewN ?_ _ | ((with_reducible refine Ext.setCell' ?_ ?_ _); solve | omega | simp | (simp; omega)) | (with_reducible refine Ext.trans ?_ (by with_reducible assumption))))))).mono ?_; rintro e w3 ⟨rfl, hx3⟩; obtain ⟨hc3, hf3⟩ := hx3.rules; have hs3 := hx3.size; (try simp at hs3); have := (show w.heap.size < w3.heap.size from by omega)) | go_in)
      all_goals go_ret
      all_goals refine ⟨ret_bool' ?_, by (repeat (first | with_reducible exact Ext.refl _ | with_reducible assumption | ((with_reducible apply Src.ext); with_reducible assumption) | with_reducible refine Ext.alloc ?_ _ | with_reducible refine Ext.drew ?_ | with_reducible refine Ext.drewN ?_ _ | ((with_reducible refine Ext.setCell' ?_ ?_ _); solve | omega | simp | (simp; omega)) | (with_reducible refine Ext.trans ?_ (by with_reducible assumption))))⟩
      all_goals (try simp only [Bool.not_eq_true', Bool.not_eq_false'] at *)
      all_goals (try simp [*])
    · rw [show chB y 3 co ot la te = (inB y (-2999) 3000 && (smB co 1 16 && ((smB ot 1 16 && !(ot.toList == co.toList)) && (la.toList.isEmpty && te.toList.isEmpty)))) by unfold chB; rw [hk]; simp]
      go_enter Tryz.func26, Tryz.ntmps26
      go_wp2_with (first | (go_at_call 57; refine (within_any _ _ _ _).mono ?_; rintro e w' ⟨rfl, rfl⟩) | (go_at_call 58; refine (i_IsWord _ _ (by omega)).mono ?_; rintro e w1 ⟨rfl, hx1⟩; obtain ⟨hc1, hf1⟩ := hx1.rules; have hs1 := hx1.size; (try simp at hs1); have := (show w.heap.size < w1.heap.size from by omega)) | (go_at_call 60; refine (i_isLanguage _ _ (by omega)).mono ?_; rintro e w2 ⟨rfl, hx2⟩; obtain ⟨hc2, hf2⟩ := hx2.rules; have hs2 := hx2.size; (try simp at hs2); have := (show w.heap.size < w2.heap.size from by omega)) | (go_at_call 61; refine (i_IsPhrase _ _ (by omega) (HM.out.ext (by (repeat (first | with_reducible exact Ext.refl _ | with_reducible assumption | ((with_reducible apply Src.ext); with_reducible assumption) | with_reducible refine Ext.alloc ?_ _ | with_reducible refine Ext.drew ?_ | with_reducible refine Ext.drewN ?_ _ | ((with_reducible refine Ext.setCell' ?_ ?_ _); solve | omega | simp | (simp; omega)) | (with_reducible refine Ext.trans ?_ (by with_reducible assumption))))))).mono ?_; rintro e w3 ⟨rfl, hx3⟩; obtain ⟨hc3, hf3⟩ := hx3.rules; have hs3 := hx3.size; (try simp at hs3); have := (show w.heap.size < w3.heap.size from by omega)) | go_in)
      all_goals go_ret
      all_goals refine ⟨ret_bool' ?_, by (repeat (first | with_reducible exact Ext.refl _ | with_reducible assumption | ((with_reducible apply Src.ext); with_reducible assumption) | with_reducible refine Ext.alloc ?_ _ | with_reducible refine Ext.drew ?_ | with_reducible refine Ext.drewN ?_ _ | ((with_reducible refine Ext.setCell' ?_ ?_ _); solve | omega | simp | (simp; omega)) | (with_reducible refine Ext.trans ?_ (by with_reducible assumption))))⟩
      all_goals (try simp only [Bool.not_eq_true', Bool.not_eq_false'] at *)
      all_goals (try simp [*])

set_option maxRecDepth 20000 in
set_option maxHeartbeats 12800000 in
theorem s_IsChange (y k : Int) (co ot la te : ByteArray) (w : World) (h1 : co.size ≤ 1048576) (h2 : ot.size ≤ 1048576) (h3 : la.size ≤ 1048576) (h4 : te.size ≤ 1048576) :
    Calls Tryz.prog 45 #[.agg #[.int .i64 y, .int .i64 k, .string co, .string ot, .string la, .string te]] w fun e w' => e = .returned (.bool (chB y k co ot la te)) ∧ Ext w w' := by
  cases hk : inB k 0 3 with
  | false =>
    rw [show chB y k co ot la te = false by unfold chB; rw [hk, Bool.false_and, Bool.and_false]]
    go_enter Tryz.func45, Tryz.ntmps45
    go_wp2_with (first | (go_at_call 65; refine (l01In_any _ _ _ _).mono ?_; rintro e w' ⟨rfl, rfl⟩) | (go_at_call 82; refine (s_IsWord _ _ (by omega)).mono ?_; rintro e w1 ⟨rfl, hx1⟩; obtain ⟨hc1, hf1⟩ := hx1.rules; have hs1 := hx1.size; (try simp at hs1); have := (show w.heap.size < w1.heap.size from by omega)) | (go_at_call 83; refine (s_l09Language _ _ (by omega)).mono ?_; rintro e w2 ⟨rfl, hx2⟩; obtain ⟨hc2, hf2⟩ := hx2.rules; have hs2 := hx2.size; (try simp at hs2); have := (show w.heap.size < w2.heap.size from by omega)) | (go_at_call 84; refine (s_IsPhrase _ _ (by omega)).mono ?_; rintro e w3 ⟨rfl, hx3⟩; obtain ⟨hc3, hf3⟩ := hx3.rules; have hs3 := hx3.size; (try simp at hs3); have := (show w.heap.size < w3.heap.size from by omega)))
    all_goals go_ret
    all_goals exact ⟨rfl, by (repeat (first | with_reducible exact Ext.refl _ | with_reducible assumption | ((with_reducible apply Src.ext); with_reducible assumption) | with_reducible refine Ext.alloc ?_ _ | with_reducible refine Ext.drew ?_ | with_reducible refine Ext.drewN ?_ _ | ((with_reducible refine Ext.setCell' ?_ ?_ _); solve | omega | simp | (simp; omega)) | (with_reducible refine Ext.trans ?_ (by with_reducible assumption))))⟩
  | true =>
    have hk4 : k = 0 ∨ k = 1 ∨ k = 2 ∨ k = 3 := by simp [inB] at hk; omega
    rcases hk4 with rfl | rfl | rfl | rfl
    · rw [show chB y 0 co ot la te = (inB y (-2999) 3000 && (smB co 1 16 && (ot.toList.isEmpty && (smL la.data.toList 2 3 && phB te.data.toList)))) by unfold chB; rw [hk]; simp]
      go_enter Tryz.func45, Tryz.ntmps45
      go_wp2_with (first | (go_at_call 65; refine (l01In_any _ _ _ _).mono ?_; rintro e w' ⟨rfl, rfl⟩) | (go_at_call 82; refine (s_IsWord _ _ (by omega)).mono ?_; rintro e w1 ⟨rfl, hx1⟩; obtain ⟨hc1, hf1⟩ := hx1.rules; have hs1 := hx1.size; (try simp at hs1); have := (show w.heap.size < w1.heap.size from by omega)) | (go_at_call 83; refine (s_l09Language _ _ (by omega)).mono ?_; rintro e w2 ⟨rfl, hx2⟩; obtain ⟨hc2, hf2⟩ := hx2.rules; have hs2 := hx2.size; (try simp at hs2); have := (show w.heap.size < w2.heap.size from by omega)) | (go_at_call 84; refine (s_IsPhrase _ _ (by omega)).mono ?_; rintro e w3 ⟨rfl, hx3⟩; obtain ⟨hc3, hf3⟩ := hx3.rules; have hs3 := hx3.size; (try simp at hs3); have := (show w.heap.size < w3.heap.size from by omega)))
      all_goals go_ret
      all_goals refine ⟨ret_bool' ?_, by (repeat (first | with_reducible exact Ext.refl _ | with_reducible assumption | ((with_reducible apply Src.ext); with_reducible assumption) | with_reducible refine Ext.alloc ?_ _ | with_reducible refine Ext.drew ?_ | with_reducible refine Ext.drewN ?_ _ | ((with_reducible refine Ext.setCell' ?_ ?_ _); solve | omega | simp | (simp; omega)) | (with_reducible refine Ext.trans ?_ (by with_reducible assumption))))⟩
      all_goals (try simp only [Bool.not_eq_true', Bool.not_eq_false'] at *)
      all_goals (try simp [*])
    · rw [show chB y 1 co ot la te = (inB y (-2999) 3000 && (smB co 1 16 && (ot.toList.isEmpty && (la.toList.isEmpty && te.toList.isEmpty)))) by unfold chB; rw [hk]; simp]
      go_enter Tryz.func45, Tryz.ntmps45
      go_wp2_with (first | (go_at_call 65; refine (l01In_any _ _ _ _).mono ?_; rintro e w' ⟨rfl, rfl⟩) | (go_at_call 82; refine (s_IsWord _ _ (by omega)).mono ?_; rintro e w1 ⟨rfl, hx1⟩; obtain ⟨hc1, hf1⟩ := hx1.rules; have hs1 := hx1.size; (try simp at hs1); have := (show w.heap.size < w1.heap.size from by omega)) | (go_at_call 83; refine (s_l09Language _ _ (by omega)).mono ?_; rintro e w2 ⟨rfl, hx2⟩; obtain ⟨hc2, hf2⟩ := hx2.rules; have hs2 := hx2.size; (try simp at hs2); have := (show w.heap.size < w2.heap.size from by omega)) | (go_at_call 84; refine (s_IsPhrase _ _ (by omega)).mono ?_; rintro e w3 ⟨rfl, hx3⟩; obtain ⟨hc3, hf3⟩ := hx3.rules; have hs3 := hx3.size; (try simp at hs3); have := (show w.heap.size < w3.heap.size from by omega)))
      all_goals go_ret
      all_goals refine ⟨ret_bool' ?_, by (repeat (first | with_reducible exact Ext.refl _ | with_reducible assumption | ((with_reducible apply Src.ext); with_reducible assumption) | with_reducible refine Ext.alloc ?_ _ | with_reducible refine Ext.drew ?_ | with_reducible refine Ext.drewN ?_ _ | ((with_reducible refine Ext.setCell' ?_ ?_ _); solve | omega | simp | (simp; omega)) | (with_reducible refine Ext.trans ?_ (by with_reducible assumption))))⟩
      all_goals (try simp only [Bool.not_eq_true', Bool.not_eq_false'] at *)
      all_goals (try simp [*])
    · rw [show chB y 2 co ot la te = (inB y (-2999) 3000 && (smB co 1 16 && ((smB ot 1 16 && !(ot.toList == co.toList)) && (la.toList.isEmpty && te.toList.isEmpty)))) by unfold chB; rw [hk]; simp]
      go_enter Tryz.func45, Tryz.ntmps45
      go_wp2_with (first | (go_at_call 65; refine (l01In_any _ _ _ _).mono ?_; rintro e w' ⟨rfl, rfl⟩) | (go_at_call 82; refine (s_IsWord _ _ (by omega)).mono ?_; rintro e w1 ⟨rfl, hx1⟩; obtain ⟨hc1, hf1⟩ := hx1.rules; have hs1 := hx1.size; (try simp at hs1); have := (show w.heap.size < w1.heap.size from by omega)) | (go_at_call 83; refine (s_l09Language _ _ (by omega)).mono ?_; rintro e w2 ⟨rfl, hx2⟩; obtain ⟨hc2, hf2⟩ := hx2.rules; have hs2 := hx2.size; (try simp at hs2); have := (show w.heap.size < w2.heap.size from by omega)) | (go_at_call 84; refine (s_IsPhrase _ _ (by omega)).mono ?_; rintro e w3 ⟨rfl, hx3⟩; obtain ⟨hc3, hf3⟩ := hx3.rules; have hs3 := hx3.size; (try simp at hs3); have := (show w.heap.size < w3.heap.size from by omega)))
      all_goals go_ret
      all_goals refine ⟨ret_bool' ?_, by (repeat (first | with_reducible exact Ext.refl _ | with_reducible assumption | ((with_reducible apply Src.ext); with_reducible assumption) | with_reducible refine Ext.alloc ?_ _ | with_reducible refine Ext.drew ?_ | with_reducible refine Ext.drewN ?_ _ | ((with_reducible refine Ext.setCell' ?_ ?_ _); solve | omega | simp | (simp; omega)) | (with_reducible refine Ext.trans ?_ (by with_reducible assumption))))⟩
      all_goals (try simp only [Bool.not_eq_true', Bool.not_eq_false'] at *)
      all_goals (try simp [*])
    · rw [show chB y 3 co ot la te = (inB y (-2999) 3000 && (smB co 1 16 && ((smB ot 1 16 && !(ot.toList == co.toList)) && (la.toList.isEmpty && te.toList.isEmpty)))) by unfold chB; rw [hk]; simp]
      go_enter Tryz.func45, Tryz.ntmps45
      go_wp2_with (first | (go_at_call 65; refine (l01In_any _ _ _ _).mono ?_; rintro e w' ⟨rfl, rfl⟩) | (go_at_call 82; refine (s_IsWord _ _ (by omega)).mono ?_; rintro e w1 ⟨rfl, hx1⟩; obtain ⟨hc1, hf1⟩ := hx1.rules; have hs1 := hx1.size; (try simp at hs1); have := (show w.heap.size < w1.heap.size from by omega)) | (go_at_call 83; refine (s_l09Language _ _ (by omega)).mono ?_; rintro e w2 ⟨rfl, hx2⟩; obtain ⟨hc2, hf2⟩ := hx2.rules; have hs2 := hx2.size; (try simp at hs2); have := (show w.heap.size < w2.heap.size from by omega)) | (go_at_call 84; refine (s_IsPhrase _ _ (by omega)).mono ?_; rintro e w3 ⟨rfl, hx3⟩; obtain ⟨hc3, hf3⟩ := hx3.rules; have hs3 := hx3.size; (try simp at hs3); have := (show w.heap.size < w3.heap.size from by omega)))
      all_goals go_ret
      all_goals refine ⟨ret_bool' ?_, by (repeat (first | with_reducible exact Ext.refl _ | with_reducible assumption | ((with_reducible apply Src.ext); with_reducible assumption) | with_reducible refine Ext.alloc ?_ _ | with_reducible refine Ext.drew ?_ | with_reducible refine Ext.drewN ?_ _ | ((with_reducible refine Ext.setCell' ?_ ?_ _); solve | omega | simp | (simp; omega)) | (with_reducible refine Ext.trans ?_ (by with_reducible assumption))))⟩
      all_goals (try simp only [Bool.not_eq_true', Bool.not_eq_false'] at *)
      all_goals (try simp [*])

end Go.Proofs.YtabdffponmmhoaaGreatDoor
namespace Go.Proofs.YtabdffponmmhoaaGreatDoor
open Go.RowKit
attribute [local go_sem] ExtOf.cell ExtOf.frozen


end Go.Proofs.YtabdffponmmhoaaGreatDoor
namespace Go.Proofs.YtabdffponmmhoaaGreatDoor
open Go.RowKit
attribute [local go_sem] ExtOf.cell ExtOf.frozen

/-- a text, or a full stop where it is empty -/
def dtB (s : ByteArray) : ByteArray := if s.toList.isEmpty then ⟨#[46]⟩ else s
theorem dtB_len {s : ByteArray} {m : Nat} (h : s.size ≤ m) (hm : 1 ≤ m) : (dtB s).size ≤ m := by
  unfold dtB
  split
  · exact hm
  · exact h
theorem s_l13Stop (s : ByteArray) (w : World) : Calls Tryz.prog 87 #[.string s] w fun e w' => e = .returned (.string (dtB s)) ∧ Ext w w' := by
  unfold dtB
  cases h : s.toList.isEmpty with
  | true =>
    rw [if_pos rfl]
    go_enter Tryz.func87, Tryz.ntmps87
    go_wp2
    go_ret
    exact ⟨rfl, by (repeat (first | with_reducible exact Ext.refl _ | with_reducible assumption | ((with_reducible apply Src.ext); with_reducible assumption) | with_reducible refine Ext.alloc ?_ _ | with_reducible refine Ext.drew ?_ | with_reducible refine Ext.drewN ?_ _ | ((with_reducible refine Ext.setCell' ?_ ?_ _); solve | omega | simp | (simp; omega)) | (with_reducible refine Ext.trans ?_ (by with_reducible assumption))))⟩
  | false =>
    rw [if_neg (by simp)]
    go_enter Tryz.func87, Tryz.ntmps87
    go_wp2
    go_ret
    exact ⟨rfl, by (repeat (first | with_reducible exact Ext.refl _ | with_reducible assumption | ((with_reducible apply Src.ext); with_reducible assumption) | with_reducible refine Ext.alloc ?_ _ | with_reducible refine Ext.drew ?_ | with_reducible refine Ext.drewN ?_ _ | ((with_reducible refine Ext.setCell' ?_ ?_ _); solve | omega | simp | (simp; omega)) | (with_reducible refine Ext.trans ?_ (by with_reducible assumption))))⟩
theorem i_orDot (s : ByteArray) (w : World) : Calls Tryz.prog 81 #[.string s] w fun e w' => e = .returned (.string (dtB s)) ∧ Ext w w' := by
  unfold dtB
  cases h : s.toList.isEmpty with
  | true =>
    rw [if_pos rfl]
    go_enter Tryz.func81, Tryz.ntmps81
    go_wp2
    go_ret
    exact ⟨rfl, by (repeat (first | with_reducible exact Ext.refl _ | with_reducible assumption | ((with_reducible apply Src.ext); with_reducible assumption) | with_reducible refine Ext.alloc ?_ _ | with_reducible refine Ext.drew ?_ | with_reducible refine Ext.drewN ?_ _ | ((with_reducible refine Ext.setCell' ?_ ?_ _); solve | omega | simp | (simp; omega)) | (with_reducible refine Ext.trans ?_ (by with_reducible assumption))))⟩
  | false =>
    rw [if_neg (by simp)]
    go_enter Tryz.func81, Tryz.ntmps81
    go_wp2
    go_ret
    exact ⟨rfl, by (repeat (first | with_reducible exact Ext.refl _ | with_reducible assumption | ((with_reducible apply Src.ext); with_reducible assumption) | with_reducible refine Ext.alloc ?_ _ | with_reducible refine Ext.drew ?_ | with_reducible refine Ext.drewN ?_ _ | ((with_reducible refine Ext.setCell' ?_ ?_ _); solve | omega | simp | (simp; omega)) | (with_reducible refine Ext.trans ?_ (by with_reducible assumption))))⟩
theorem s_l01DecI (n : Int) (w : World) (h0 : 0 ≤ n) (h1 : n ≤ 1000) : Calls Tryz.prog 86 #[.int .i64 n] w fun e w' => e = .returned (.string (tx (Lib.itoa n))) ∧ Ext w w' := by
  obtain ⟨m, rfl⟩ : ∃ m : Nat, n = m := ⟨n.toNat, by omega⟩
  rw [itoa_nat (by omega)]
  exact s_l01Dec m w (by omega)
/-- the parts of a change's text -/
def chL (y k : Int) (co ot la te : ByteArray) : List (List UInt8) := [Lib.itoa y, Lib.itoa k, co.data.toList, (dtB ot).data.toList, (dtB la).data.toList, (dtB te).data.toList]
/-- the text of a change -/
def chT (y k : Int) (co ot la te : ByteArray) : List UInt8 := jn (chL y k co ot la te) [47]
theorem tx_data (s : ByteArray) : tx s.data.toList = s := rfl
theorem six_tx (a b c d e f : List UInt8) : tx a ++ (⟨#[47]⟩ : ByteArray) ++ tx b ++ (⟨#[47]⟩ : ByteArray) ++ tx c ++ (⟨#[47]⟩ : ByteArray) ++ tx d ++ (⟨#[47]⟩ : ByteArray) ++ tx e ++ (⟨#[47]⟩ : ByteArray) ++ tx f = tx (jn [a, b, c, d, e, f] [47]) := by
  rw [show (⟨#[47]⟩ : ByteArray) = tx [47] from rfl]
  simp only [tx_add]
  congr 1
  simp [Lib.join]
theorem chT_tx (y k : Int) (co ot la te : ByteArray) : tx (Lib.itoa y) ++ (⟨#[47]⟩ : ByteArray) ++ tx (Lib.itoa k) ++ (⟨#[47]⟩ : ByteArray) ++ co ++ (⟨#[47]⟩ : ByteArray) ++ dtB ot ++ (⟨#[47]⟩ : ByteArray) ++ dtB la ++ (⟨#[47]⟩ : ByteArray) ++ dtB te = tx (chT y k co ot la te) :=
  six_tx (Lib.itoa y) (Lib.itoa k) co.data.toList (dtB ot).data.toList (dtB la).data.toList (dtB te).data.toList
theorem chT_len {y k : Int} {co ot la te : ByteArray} (hy : Num y) (hk : Num k) (h1 : co.size ≤ 1048576) (h2 : ot.size ≤ 1048576) (h3 : la.size ≤ 1048576) (h4 : te.size ≤ 1048576) : (chT y k co ot la te).length ≤ 6291462 := by
  have := jn_len (L := chL y k co ot la te) (sep := [47]) (m := 1048576) (by
    intro x hx
    have a1 := itoa_len hy
    have a2 := itoa_len hk
    have a4 := dtB_len (m := 1048576) h2 (by omega)
    have a5 := dtB_len (m := 1048576) h3 (by omega)
    have a6 := dtB_len (m := 1048576) h4 (by omega)
    rw [← size_list] at a4 a5 a6 h1
    simp only [chL, List.mem_cons, List.not_mem_nil, or_false] at hx
    rcases hx with rfl | rfl | rfl | rfl | rfl | rfl <;> omega)
  simp only [chL, List.length_cons, List.length_nil] at this
  exact this
theorem inB_num {y : Int} {a b : Int} (h : inB y a b = true) (ha : -1000000000000000 ≤ a) (hb : b ≤ 1000000000000000) : Num y := by
  simp [inB] at h
  unfold Num
  omega
set_option maxRecDepth 20000 in
set_option maxHeartbeats 3200000 in
theorem s_l13Text (y k : Int) (co ot la te : ByteArray) (w : World) (hy : Num y) (hk0 : 0 ≤ k) (hk1 : k ≤ 3) (h1 : co.size ≤ 1048576) (h2 : ot.size ≤ 1048576) (h3 : la.size ≤ 1048576) (h4 : te.size ≤ 1048576) :
    Calls Tryz.prog 46 #[.agg #[.int .i64 y, .int .i64 k, .string co, .string ot, .string la, .string te]] w fun e w' => e = .returned (.string (tx (chT y k co ot la te))) ∧ Ext w w' := by
  have a1 := itoa_len hy
  have a2 := itoa_len (show Num k by unfold Num; omega)
  have a4 := dtB_len (m := 1048576) h2 (by omega)
  have a5 := dtB_len (m := 1048576) h3 (by omega)
  have a6 := dtB_len (m := 1048576) h4 (by omega)
  rw [← tx_size] at a1 a2
  have HN : Hid (Num y) := Lib.hid hy
  have HD : Hid (∀ W, Calls Tryz.prog 86 #[.int .i64 k] W fun e w' => e = .returned (.string (tx (Lib.itoa k))) ∧ Ext W w') := Lib.hid fun W => s_l01DecI k W hk0 (by omega)
  rw [← chT_tx]
  have HS4 := Lib.hid (s_l13Stop ot)
  have HS5 := Lib.hid (s_l13Stop la)
  have HS6 := Lib.hid (s_l13Stop te)
  have HS1 : Hid (∀ W, Calls Tryz.prog 85 #[.int .i64 y] W fun e w' => e = .returned (.string (tx (Lib.itoa y))) ∧ Ext W w') := Lib.hid fun W => s_l01Number y W hy
  generalize tx (Lib.itoa y) = p1 at *
  generalize tx (Lib.itoa k) = p2 at *
  generalize dtB ot = p4 at *
  generalize dtB la = p5 at *
  generalize dtB te = p6 at *
  have f1 : (p1.size + 1 > 9223372036854775807) = False := eq_false (by omega)
  have f2 : (p1.size + 1 + p2.size > 9223372036854775807) = False := eq_false (by omega)
  have f3 : (p1.size + 1 + p2.size + 1 > 9223372036854775807) = False := eq_false (by omega)
  have f4 : (p1.size + 1 + p2.size + 1 + co.size > 9223372036854775807) = False := eq_false (by omega)
  have f5 : (p1.size + 1 + p2.size + 1 + co.size + 1 > 9223372036854775807) = False := eq_false (by omega)
  have f6 : (p1.size + 1 + p2.size + 1 + co.size + 1 + p4.size > 9223372036854775807) = False := eq_false (by omega)
  have f7 : (p1.size + 1 + p2.size + 1 + co.size + 1 + p4.size + 1 > 9223372036854775807) = False := eq_false (by omega)
  have f8 : (p1.size + 1 + p2.size + 1 + co.size + 1 + p4.size + 1 + p5.size > 9223372036854775807) = False := eq_false (by omega)
  have f9 : (p1.size + 1 + p2.size + 1 + co.size + 1 + p4.size + 1 + p5.size + 1 > 9223372036854775807) = False := eq_false (by omega)
  have f10 : (p1.size + 1 + p2.size + 1 + co.size + 1 + p4.size + 1 + p5.size + 1 + p6.size > 9223372036854775807) = False := eq_false (by omega)
  clear hy hk0 hk1 h1 h2 h3 h4 a1 a2 a4 a5 a6
  go_enter Tryz.func46, Tryz.ntmps46
  go_wp2
  (refine wp_region_ext (by kernel_rfl) (by kernel_rfl) ?_; (repeat (go_big_quiet_step (first | (go_at_call 85; exact Calls_ext (HS1.out _)) | (go_at_call 86; exact Calls_ext (HD.out _)) | (go_at_call 87; exact Calls_ext ((by first | exact HS4.out _ | exact HS5.out _ | exact HS6.out _)))))); refine wpQuiet_nil ?_; intro wq hxwq; obtain ⟨hcwq, hfwq⟩ := hxwq.rules; have hswq := hxwq.size; (try simp at hswq))
  go_wp2
  go_ret
  exact ⟨rfl, by (repeat (first | with_reducible exact Ext.refl _ | with_reducible assumption | ((with_reducible apply Src.ext); with_reducible assumption) | with_reducible refine Ext.alloc ?_ _ | with_reducible refine Ext.drew ?_ | with_reducible refine Ext.drewN ?_ _ | ((with_reducible refine Ext.setCell' ?_ ?_ _); solve | omega | simp | (simp; omega)) | (with_reducible refine Ext.trans ?_ (by with_reducible assumption))))⟩
set_option maxRecDepth 20000 in
set_option maxHeartbeats 3200000 in
theorem i_changeText (y k : Int) (co ot la te : ByteArray) (w : World) (hy : Num y) (hk0 : 0 ≤ k) (hk1 : k ≤ 3) (h1 : co.size ≤ 1048576) (h2 : ot.size ≤ 1048576) (h3 : la.size ≤ 1048576) (h4 : te.size ≤ 1048576) (hT : Tab w) :
    Calls Tryz.prog 44 #[.agg #[.int .i64 y, .int .i64 k, .string co, .string ot, .string la, .string te]] w fun e w' => e = .returned (.string (tx (chT y k co ot la te))) ∧ Ext w w' := by
  have hk : Num k := by unfold Num; omega
  have HL := Lib.hid (chT_len hy hk h1 h2 h3 h4)
  have HT := Lib.hid (hT.ext ((Ext.refl w).alloc (.cells #[.int .i64 y, .int .i64 k, .string co, .string ot, .string la, .string te] 47)))
  have HN : Hid (Num y ∧ Num k) := Lib.hid ⟨hy, hk⟩
  have HE : Hid (chT y k co ot la te = Lib.join (([tx (Lib.itoa y), tx (Lib.itoa k), co, dtB ot, dtB la, dtB te] : List ByteArray).map (·.data.toList)) [47]) := Lib.hid rfl
  generalize chT y k co ot la te = r at *
  have HI : Hid (∀ n W, Num n → Tab W → Calls Tryz.prog 80 #[.int .i64 n] W fun e w' => e = .returned (.string (tx (Lib.itoa n))) ∧ Ext W w') := Lib.hid fun n W h h' => i_decimalN n W h h'
  have HO := Lib.hid i_orDot
  clear hy hk hk0 hk1 h1 h2 h3 h4 hT
  go_enter Tryz.func44, Tryz.ntmps44
  go_wp2
  (refine wp_region_ext_tail 17 (by kernel_rfl) (by kernel_rfl) ?_; simp only [List.take_succ_cons, List.take_zero, List.drop_succ_cons, List.drop_zero]; (repeat (go_big_quiet_step (first | (go_at_call 80; exact Calls_ext (HI.out _ _ (by first | exact HN.out.1 | exact HN.out.2) (HT.out.ext (ExtOf.ext _)))) | (go_at_call 81; exact Calls_ext (HO.out _ _))))); refine wpQuiet_nil ?_; intro wq hxwq; obtain ⟨hcwq, hfwq⟩ := hxwq.rules; have hswq := hxwq.size; (try simp at hswq))
  generalize tx (Lib.itoa y) = p1 at *
  generalize tx (Lib.itoa k) = p2 at *
  generalize dtB ot = p4 at *
  generalize dtB la = p5 at *
  generalize dtB te = p6 at *
  go_wp2_with fail
  refine (Tryz.strings_Join wq.heap.size 0 6 [p1, p2, co, p4, p5, p6] ⟨#[47]⟩ _ (fun j x hj => ?_) (by simp) (by simp) (by simp) ?_).mono ?_
  · match j, hj with
    | 0, hj => cases hj; simp [go_sem]
    | 1, hj => cases hj; simp [go_sem]
    | 2, hj => cases hj; simp [go_sem]
    | 3, hj => cases hj; simp [go_sem]
    | 4, hj => cases hj; simp [go_sem]
    | 5, hj => cases hj; simp [go_sem]
    | j + 6, hj => simp at hj
  · have h1 := HL.out
    rw [HE.out] at h1
    exact Nat.le_trans h1 (by omega)
  rintro e w2 ⟨rfl, hx2⟩
  have hx2' : Ext _ w2 := hx2
  have hE : (⟨(Lib.join (([p1, p2, co, p4, p5, p6] : List ByteArray).map (·.data.toList)) (⟨#[47]⟩ : ByteArray).data.toList).toArray⟩ : ByteArray) = tx r := by rw [HE.out]; rfl
  rw [hE]
  go_wp2
  go_ret
  exact ⟨rfl, by (repeat (first | with_reducible exact Ext.refl _ | with_reducible assumption | ((with_reducible apply Src.ext); with_reducible assumption) | with_reducible refine Ext.alloc ?_ _ | with_reducible refine Ext.drew ?_ | with_reducible refine Ext.drewN ?_ _ | ((with_reducible refine Ext.setCell' ?_ ?_ _); solve | omega | simp | (simp; omega)) | (with_reducible refine Ext.trans ?_ (by with_reducible assumption))))⟩
/-- what ChangeText returns -/
def chR (y k : Int) (co ot la te : ByteArray) : List UInt8 := if chB y k co ot la te = true then chT y k co ot la te else []
def chC (y k : Int) (co ot la te : ByteArray) : Int := if chB y k co ot la te = true then 0 else 1
theorem chB_facts {y k : Int} {co ot la te : ByteArray} (h : chB y k co ot la te = true) : Num y ∧ 0 ≤ k ∧ k ≤ 3 := by
  unfold chB at h
  simp only [Bool.and_eq_true] at h
  refine ⟨inB_num h.1 (by omega) (by omega), ?_⟩
  have := h.2.1
  simp [inB] at this
  omega

set_option maxHeartbeats 1600000 in
theorem s_ChangeText (y k : Int) (co ot la te : ByteArray) (w : World) (h1 : co.size ≤ 1048576) (h2 : ot.size ≤ 1048576) (h3 : la.size ≤ 1048576) (h4 : te.size ≤ 1048576) :
    Calls Tryz.prog 22 #[.agg #[.int .i64 y, .int .i64 k, .string co, .string ot, .string la, .string te]] w fun e w' => e = .returned (.tuple #[.string (tx (chR y k co ot la te)), .int .i64 (chC y k co ot la te)]) ∧ Ext w w' := by
  unfold chR chC
  cases h : chB y k co ot la te with
  | true =>
    obtain ⟨hy, hk0, hk1⟩ := chB_facts h
    have H1 : Hid (∀ W, Calls Tryz.prog 45 #[.agg #[.int .i64 y, .int .i64 k, .string co, .string ot, .string la, .string te]] W fun e w' => e = .returned (.bool true) ∧ Ext W w') := Lib.hid fun W => by have := s_IsChange y k co ot la te W h1 h2 h3 h4; rwa [h] at this
    have H2 := Lib.hid fun W => s_l13Text y k co ot la te W hy hk0 hk1 h1 h2 h3 h4
    rw [if_pos rfl, if_pos rfl]
    clear hy hk0 hk1 h h1 h2 h3 h4
    go_enter Tryz.func22, Tryz.ntmps22
    (go_wp2_with fail; refine (H1.out _).mono ?_; rintro e w1 ⟨rfl, hx1⟩; obtain ⟨hc1, hf1⟩ := hx1.rules; have hs1 := hx1.size; (try simp at hs1); have := (show w.heap.size < w1.heap.size from by omega))
    (go_wp2_with fail; refine (H2.out _).mono ?_; rintro e w2 ⟨rfl, hx2⟩; obtain ⟨hc2, hf2⟩ := hx2.rules; have hs2 := hx2.size; (try simp at hs2))
    go_wp2
    go_ret2
    exact ⟨rfl, by (repeat (first | with_reducible exact Ext.refl _ | with_reducible assumption | ((with_reducible apply Src.ext); with_reducible assumption) | with_reducible refine Ext.alloc ?_ _ | with_reducible refine Ext.drew ?_ | with_reducible refine Ext.drewN ?_ _ | ((with_reducible refine Ext.setCell' ?_ ?_ _); solve | omega | simp | (simp; omega)) | (with_reducible refine Ext.trans ?_ (by with_reducible assumption))))⟩
  | false =>
    have H1 : Hid (∀ W, Calls Tryz.prog 45 #[.agg #[.int .i64 y, .int .i64 k, .string co, .string ot, .string la, .string te]] W fun e w' => e = .returned (.bool false) ∧ Ext W w') := Lib.hid fun W => by have := s_IsChange y k co ot la te W h1 h2 h3 h4; rwa [h] at this
    rw [if_neg (by simp), if_neg (by simp)]
    clear h h1 h2 h3 h4
    go_enter Tryz.func22, Tryz.ntmps22
    (go_wp2_with fail; refine (H1.out _).mono ?_; rintro e w1 ⟨rfl, hx1⟩; obtain ⟨hc1, hf1⟩ := hx1.rules; have hs1 := hx1.size; (try simp at hs1); have := (show w.heap.size < w1.heap.size from by omega))
    go_wp2
    go_ret2
    exact ⟨rfl, by (repeat (first | with_reducible exact Ext.refl _ | with_reducible assumption | ((with_reducible apply Src.ext); with_reducible assumption) | with_reducible refine Ext.alloc ?_ _ | with_reducible refine Ext.drew ?_ | with_reducible refine Ext.drewN ?_ _ | ((with_reducible refine Ext.setCell' ?_ ?_ _); solve | omega | simp | (simp; omega)) | (with_reducible refine Ext.trans ?_ (by with_reducible assumption))))⟩

set_option maxHeartbeats 1600000 in
theorem i_ChangeText (y k : Int) (co ot la te : ByteArray) (w : World) (h1 : co.size ≤ 1048576) (h2 : ot.size ≤ 1048576) (h3 : la.size ≤ 1048576) (h4 : te.size ≤ 1048576) (hm : Mx w) (hT : Tab w) :
    Calls Tryz.prog 21 #[.agg #[.int .i64 y, .int .i64 k, .string co, .string ot, .string la, .string te]] w fun e w' => e = .returned (.tuple #[.string (tx (chR y k co ot la te)), .int .i64 (chC y k co ot la te)]) ∧ Ext w w' := by
  unfold chR chC
  have HM := Lib.hid hm
  have HT := Lib.hid hT
  clear hm hT
  cases h : chB y k co ot la te with
  | true =>
    obtain ⟨hy, hk0, hk1⟩ := chB_facts h
    have H1 : Hid (∀ W (_ : Mx W), Calls Tryz.prog 26 #[.agg #[.int .i64 y, .int .i64 k, .string co, .string ot, .string la, .string te]] W fun e w' => e = .returned (.bool true) ∧ Ext W w') := Lib.hid fun W hM => by have := i_IsChange y k co ot la te W h1 h2 h3 h4 hM; rwa [h] at this
    have H2 := Lib.hid fun W (hT : Tab W) => i_changeText y k co ot la te W hy hk0 hk1 h1 h2 h3 h4 hT
    rw [if_pos rfl, if_pos rfl]
    clear hy hk0 hk1 h h1 h2 h3 h4
    go_enter Tryz.func21, Tryz.ntmps21
    (go_wp2_with fail; refine (H1.out _ (HM.out.ext (by (repeat (first | with_reducible exact Ext.refl _ | with_reducible assumption | ((with_reducible apply Src.ext); with_reducible assumption) | with_reducible refine Ext.alloc ?_ _ | with_reducible refine Ext.drew ?_ | with_reducible refine Ext.drewN ?_ _ | ((with_reducible refine Ext.setCell' ?_ ?_ _); solve | omega | simp | (simp; omega)) | (with_reducible refine Ext.trans ?_ (by with_reducible assumption))))))).mono ?_; rintro e w1 ⟨rfl, hx1⟩; obtain ⟨hc1, hf1⟩ := hx1.rules; have hs1 := hx1.size; (try simp at hs1); have := (show w.heap.size < w1.heap.size from by omega))
    (go_wp2_with fail; refine (H2.out _ (HT.out.ext (by (repeat (first | with_reducible exact Ext.refl _ | with_reducible assumption | ((with_reducible apply Src.ext); with_reducible assumption) | with_reducible refine Ext.alloc ?_ _ | with_reducible refine Ext.drew ?_ | with_reducible refine Ext.drewN ?_ _ | ((with_reducible refine Ext.setCell' ?_ ?_ _); solve | omega | simp | (simp; omega)) | (with_reducible refine Ext.trans ?_ (by with_reducible assumption))))))).mono ?_; rintro e w2 ⟨rfl, hx2⟩; obtain ⟨hc2, hf2⟩ := hx2.rules; have hs2 := hx2.size; (try simp at hs2))
    go_wp2
    go_ret2
    exact ⟨rfl, by (repeat (first | with_reducible exact Ext.refl _ | with_reducible assumption | ((with_reducible apply Src.ext); with_reducible assumption) | with_reducible refine Ext.alloc ?_ _ | with_reducible refine Ext.drew ?_ | with_reducible refine Ext.drewN ?_ _ | ((with_reducible refine Ext.setCell' ?_ ?_ _); solve | omega | simp | (simp; omega)) | (with_reducible refine Ext.trans ?_ (by with_reducible assumption))))⟩
  | false =>
    have H1 : Hid (∀ W (_ : Mx W), Calls Tryz.prog 26 #[.agg #[.int .i64 y, .int .i64 k, .string co, .string ot, .string la, .string te]] W fun e w' => e = .returned (.bool false) ∧ Ext W w') := Lib.hid fun W hM => by have := i_IsChange y k co ot la te W h1 h2 h3 h4 hM; rwa [h] at this
    rw [if_neg (by simp), if_neg (by simp)]
    clear h h1 h2 h3 h4
    go_enter Tryz.func21, Tryz.ntmps21
    (go_wp2_with fail; refine (H1.out _ (HM.out.ext (by (repeat (first | with_reducible exact Ext.refl _ | with_reducible assumption | ((with_reducible apply Src.ext); with_reducible assumption) | with_reducible refine Ext.alloc ?_ _ | with_reducible refine Ext.drew ?_ | with_reducible refine Ext.drewN ?_ _ | ((with_reducible refine Ext.setCell' ?_ ?_ _); solve | omega | simp | (simp; omega)) | (with_reducible refine Ext.trans ?_ (by with_reducible assumption))))))).mono ?_; rintro e w1 ⟨rfl, hx1⟩; obtain ⟨hc1, hf1⟩ := hx1.rules; have hs1 := hx1.size; (try simp at hs1); have := (show w.heap.size < w1.heap.size from by omega))
    go_wp2
    go_ret2
    exact ⟨rfl, by (repeat (first | with_reducible exact Ext.refl _ | with_reducible assumption | ((with_reducible apply Src.ext); with_reducible assumption) | with_reducible refine Ext.alloc ?_ _ | with_reducible refine Ext.drew ?_ | with_reducible refine Ext.drewN ?_ _ | ((with_reducible refine Ext.setCell' ?_ ?_ _); solve | omega | simp | (simp; omega)) | (with_reducible refine Ext.trans ?_ (by with_reducible assumption))))⟩


end Go.Proofs.YtabdffponmmhoaaGreatDoor
