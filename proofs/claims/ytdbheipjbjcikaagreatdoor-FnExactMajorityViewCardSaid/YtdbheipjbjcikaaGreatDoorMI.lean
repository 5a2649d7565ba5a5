/- Contracts of the maps: IsMap of the reference, walked over the translation. -/
import Derived.Test.YtdbheipjbjcikaaGreatDoorMH
import Derived.Deep.RegionHeld3
import Derived.Deep.DeepCutAuto
import Derived.RegionTactic
import Derived.BigRegion
import Derived.WalkLawsBesides
import Derived.WalkSpells
import Derived.Lib.MinMax
import Derived.Outline
namespace Go.Proofs.YtdbheipjbjcikaaGreatDoor
open Go.RowKit
attribute [local go_sem] ExtOf.cell ExtOf.frozen

def psOf (rs : List Rg) : List (List (Int × Int)) := rs.map fun r => r.2.2
theorem psOf_len (rs : List Rg) : (psOf rs).length = rs.length := by simp [psOf]
theorem psOf_at {rs : List Rg} {k : Nat} (hk : k < rs.length) : (psOf rs).getD k [] = (rs.getD k rgD).2.2 := by simp [psOf, List.getD, hk]
/-- what makes a list of rings a map -/
def MapP (L : List (List (Int × Int))) : Prop := L.length ≤ 6 ∧ (∀ i, i < L.length → ringB (L.getD i []) = true) ∧ ∀ i j, j < i → i < L.length → apartS (L.getD j []) (L.getD i []) = true
open Classical in
noncomputable def mapB (L : List (List (Int × Int))) : Bool := decide (MapP L)
theorem mapB_iff {L : List (List (Int × Int))} : mapB L = true ↔ MapP L := by simp [mapB]
theorem mapB_no {L : List (List (Int × Int))} (h : ¬ MapP L) : false = mapB L := by simp [mapB, h]
theorem mapB_yes {L : List (List (Int × Int))} (h : MapP L) : true = mapB L := by simp [mapB, h]
set_option maxRecDepth 20000 in
set_option maxHeartbeats 12800000 in
theorem s_IsMap (A : Option Addr) (c : Nat) (rs : List Rg) (w : World) (h : SlAt w 1 encR A rs) (hr : Rings w rs) (hl : rs.length ≤ 1048576) :
    Calls Tryz.prog 86 #[.slice A rs.length c] w fun e w' => e = .returned (.bool (mapB (psOf rs))) ∧ Ext w w' := by
  by_cases h6 : rs.length ≤ 6
  · have H6 := Lib.hid h6
    go_enter Tryz.func86, Tryz.ntmps86
    go_wp2
    go_loopw [3] (fun i wr => ∃ k : Nat, k ≤ rs.length ∧ i = .int .i64 k ∧ Hid (∀ i, i < k → ringB (rs.getD i rgD).2.2 = true) ∧ Hid (∀ i, i < k → ∀ j, j < i → apartS (rs.getD j rgD).2.2 (rs.getD i rgD).2.2 = true) ∧ Ext w wr) (fun i _ => rs.length - (intOf i).toNat)
    case atStart => exact ⟨0, by omega, rfl, fun j hj => absurd hj (by omega), fun j hj => absurd hj (by omega), by (repeat (first | with_reducible exact Ext.refl _ | with_reducible assumption | ((with_reducible apply Src.ext); with_reducible assumption) | with_reducible refine Ext.alloc ?_ _ | with_reducible refine Ext.drew ?_ | with_reducible refine Ext.drewN ?_ _ | ((with_reducible refine Ext.setCell' ?_ ?_ _); solve | omega | simp | (simp; omega)) | (with_reducible refine Ext.trans ?_ (by with_reducible assumption))))⟩
    case round =>
      obtain ⟨k, hk, rfl, HR, HF, hxr⟩ := hrel
      by_cases hlt : k < rs.length
      · obtain ⟨b, off, rfl, hb⟩ := h.openR (by omega)
        have hc0 := (h.ext hxr).rg' hlt
        have hrk := hr _ (rg_mem hlt)
        by_cases hring : ringB (rs.getD k rgD).2.2 = true
        · have HR2 := Lib.hid (upTo_succ HR.out hring)
          have hcc : ∀ W, Ext w W → Calls Tryz.prog 66 #[.slice (rs.getD k rgD).1 (rs.getD k rgD).2.2.length (rs.getD k rgD).2.1] W fun e w' => e = .returned (.bool true) ∧ Ext W w' := fun W hx => as_bool (s_IsRing _ _ _ _ (hrk.1.ext hx) hrk.2.2) hring
          have HC := Lib.hid hcc
          have HRK := Lib.hid hring
          have HK := Lib.hid hrk
          obtain ⟨r, hre⟩ : ∃ r, r = rs.getD k rgD := ⟨_, rfl⟩
          rw [← hre] at hc0 HC HRK HK
          have HRE := Lib.hid hre
          clear hcc hring hrk hre
          go_wp2_with fail
          refine (HC.out _ (by (repeat (first | with_reducible exact Ext.refl _ | with_reducible assumption | ((with_reducible apply Src.ext); with_reducible assumption) | with_reducible refine Ext.alloc ?_ _ | with_reducible refine Ext.drew ?_ | with_reducible refine Ext.drewN ?_ _ | ((with_reducible refine Ext.setCell' ?_ ?_ _); solve | omega | simp | (simp; omega)) | (with_reducible refine Ext.trans ?_ (by with_reducible assumption)))))).mono ?_
          rintro e w1 ⟨rfl, hx1⟩
          have hX1 : Ext w w1 := by (repeat (first | with_reducible exact Ext.refl _ | with_reducible assumption | ((with_reducible apply Src.ext); with_reducible assumption) | with_reducible refine Ext.alloc ?_ _ | with_reducible refine Ext.drew ?_ | with_reducible refine Ext.drewN ?_ _ | ((with_reducible refine Ext.setCell' ?_ ?_ _); solve | omega | simp | (simp; omega)) | (with_reducible refine Ext.trans ?_ (by with_reducible assumption))))
          clear hx1 hxr
          go_wp2
          go_loopw [4] (fun i wi => ∃ m : Nat, m ≤ k ∧ i = .int .i64 m ∧ Hid (∀ j, j < m → apartS (rs.getD j rgD).2.2 r.2.2 = true) ∧ Ext w wi) (fun i _ => k - (intOf i).toNat)
          case atStart => exact ⟨0, by omega, rfl, fun j hj => absurd hj (by omega), hX1⟩
          case round =>
            obtain ⟨m, hm, rfl, HJ, hxi⟩ := hrel
            have hci := (h.ext hxi).rg' hlt
            rw [← HRE.out] at hci
            have hbr : b < wr.heap.size := Nat.lt_of_lt_of_le hb hxi.size
            by_cases hlm : m < k
            · have hmr : m < rs.length := by omega
              have hcj := (h.ext hxi).rg' hmr
              have hrm := hr _ (rg_mem hmr)
              have hringm := HR.out m hlm
              have hfa := ring_facts HRK.out
              have hfb := ring_facts hringm
              by_cases hap : apartS (rs.getD m rgD).2.2 r.2.2 = true
              · have HJ2 := Lib.hid (upTo_succ HJ.out hap)
                have hcc : ∀ W, Ext w W → Calls Tryz.prog 146 #[.slice (rs.getD m rgD).1 (rs.getD m rgD).2.2.length (rs.getD m rgD).2.1, .slice r.1 r.2.2.length r.2.1] W fun e w' => e = .returned (.bool true) ∧ Ext W w' := fun W hx => as_bool (s_l17Apart _ _ _ _ _ _ _ (hrm.1.ext hx) (HK.out.1.ext hx) hfb.1 hfa.1 (by omega) (by omega) hfb.2.2 hfa.2.2) hap
                have HCC := Lib.hid hcc
                clear hcc hap hrm hringm hfa hfb
                obtain ⟨q, hqe⟩ : ∃ q, q = rs.getD m rgD := ⟨_, rfl⟩
                rw [← hqe] at hcj HCC
                clear hqe
                go_wp2
                (refine wp_region_ext (by kernel_rfl) (by kernel_rfl) ?_; (repeat (go_big_quiet_step ((go_at_call 146; exact Calls_ext (HCC.out _ (hxi.trans (ExtOf.ext _))))))); refine wpQuiet_nil ?_; intro wq hxwq; obtain ⟨hcwq, hfwq⟩ := hxwq.rules; have hswq := hxwq.size; (try simp at hswq))
                go_wp2
                go_roundw
                case rel => exact ⟨m + 1, by omega, by go_num, HJ2, by (repeat (first | with_reducible exact Ext.refl _ | with_reducible assumption | ((with_reducible apply Src.ext); with_reducible assumption) | with_reducible refine Ext.alloc ?_ _ | with_reducible refine Ext.drew ?_ | with_reducible refine Ext.drewN ?_ _ | ((with_reducible refine Ext.setCell' ?_ ?_ _); solve | omega | simp | (simp; omega)) | (with_reducible refine Ext.trans ?_ (by with_reducible assumption))))⟩
                case measure => simp [intOf]; omega
              · have hap' : apartS (rs.getD m rgD).2.2 r.2.2 = false := Bool.eq_false_iff.2 hap
                have HNO : Hid (¬ MapP (psOf rs)) := Lib.hid (fun hM => by
                  have := hM.2.2 k m hlm (by rw [psOf_len]; exact hlt)
                  rw [psOf_at hmr, psOf_at hlt, ← HRE.out, hap'] at this
                  cases this)
                have hcc : ∀ W, Ext w W → Calls Tryz.prog 146 #[.slice (rs.getD m rgD).1 (rs.getD m rgD).2.2.length (rs.getD m rgD).2.1, .slice r.1 r.2.2.length r.2.1] W fun e w' => e = .returned (.bool false) ∧ Ext W w' := fun W hx => as_bool (s_l17Apart _ _ _ _ _ _ _ (hrm.1.ext hx) (HK.out.1.ext hx) hfb.1 hfa.1 (by omega) (by omega) hfb.2.2 hfa.2.2) hap'
                have HCC := Lib.hid hcc
                clear hcc hap hap' hrm hringm hfa hfb
                obtain ⟨q, hqe⟩ : ∃ q, q = rs.getD m rgD := ⟨_, rfl⟩
                rw [← hqe] at hcj HCC
                clear hqe
                go_wp2
                (refine wp_region_ext (by kernel_rfl) (by kernel_rfl) ?_; (repeat (go_big_quiet_step ((go_at_call 146; exact Calls_ext (HCC.out _ (hxi.trans (ExtOf.ext _))))))); refine wpQuiet_nil ?_; intro wq hxwq; obtain ⟨hcwq, hfwq⟩ := hxwq.rules; have hswq := hxwq.size; (try simp at hswq))
                go_wp2
                go_ret
                exact ⟨ret_bool (mapB_no HNO.out), by (repeat (first | with_reducible exact Ext.refl _ | with_reducible assumption | ((with_reducible apply Src.ext); with_reducible assumption) | with_reducible refine Ext.alloc ?_ _ | with_reducible refine Ext.drew ?_ | with_reducible refine Ext.drewN ?_ _ | ((with_reducible refine Ext.setCell' ?_ ?_ _); solve | omega | simp | (simp; omega)) | (with_reducible refine Ext.trans ?_ (by with_reducible assumption))))⟩
            · obtain rfl : m = k := by omega
              have HF2 := Lib.hid (upTo_succ HF.out (show ∀ j, j < m → apartS (rs.getD j rgD).2.2 (rs.getD m rgD).2.2 = true from by rw [← HRE.out]; exact HJ.out))
              go_wp2
              go_roundw
              case rel => exact ⟨m + 1, by omega, by go_num, HR2, HF2, by (repeat (first | with_reducible exact Ext.refl _ | with_reducible assumption | ((with_reducible apply Src.ext); with_reducible assumption) | with_reducible refine Ext.alloc ?_ _ | with_reducible refine Ext.drew ?_ | with_reducible refine Ext.drewN ?_ _ | ((with_reducible refine Ext.setCell' ?_ ?_ _); solve | omega | simp | (simp; omega)) | (with_reducible refine Ext.trans ?_ (by with_reducible assumption))))⟩
              case measure => simp [intOf]; omega
        · have hring' : ringB (rs.getD k rgD).2.2 = false := Bool.eq_false_iff.2 hring
          have HNO : Hid (¬ MapP (psOf rs)) := Lib.hid (fun hM => by
            have := hM.2.1 k (by rw [psOf_len]; exact hlt)
            rw [psOf_at hlt, hring'] at this
            cases this)
          have hcc : ∀ W, Ext w W → Calls Tryz.prog 66 #[.slice (rs.getD k rgD).1 (rs.getD k rgD).2.2.length (rs.getD k rgD).2.1] W fun e w' => e = .returned (.bool false) ∧ Ext W w' := fun W hx => as_bool (s_IsRing _ _ _ _ (hrk.1.ext hx) hrk.2.2) hring'
          have HC := Lib.hid hcc
          obtain ⟨r, hre⟩ : ∃ r, r = rs.getD k rgD := ⟨_, rfl⟩
          rw [← hre] at hc0 HC
          clear hcc hring hring' hrk hre
          go_wp2_with fail
          refine (HC.out _ (by (repeat (first | with_reducible exact Ext.refl _ | with_reducible assumption | ((with_reducible apply Src.ext); with_reducible assumption) | with_reducible refine Ext.alloc ?_ _ | with_reducible refine Ext.drew ?_ | with_reducible refine Ext.drewN ?_ _ | ((with_reducible refine Ext.setCell' ?_ ?_ _); solve | omega | simp | (simp; omega)) | (with_reducible refine Ext.trans ?_ (by with_reducible assumption)))))).mono ?_
          rintro e w1 ⟨rfl, hx1⟩
          go_wp2
          go_ret
          exact ⟨ret_bool (mapB_no HNO.out), by (repeat (first | with_reducible exact Ext.refl _ | with_reducible assumption | ((with_reducible apply Src.ext); with_reducible assumption) | with_reducible refine Ext.alloc ?_ _ | with_reducible refine Ext.drew ?_ | with_reducible refine Ext.drewN ?_ _ | ((with_reducible refine Ext.setCell' ?_ ?_ _); solve | omega | simp | (simp; omega)) | (with_reducible refine Ext.trans ?_ (by with_reducible assumption))))⟩
      · obtain rfl : k = rs.length := by omega
        have HYES : Hid (MapP (psOf rs)) := Lib.hid ⟨by rw [psOf_len]; exact H6.out, fun i hi => by rw [psOf_len] at hi; rw [psOf_at hi]; exact HR.out i hi, fun i j hj hi => by rw [psOf_len] at hi; rw [psOf_at hi, psOf_at (by omega)]; exact HF.out i hi j hj⟩
        go_wp2
        go_ret
        exact ⟨ret_bool (mapB_yes HYES.out), by (repeat (first | with_reducible exact Ext.refl _ | with_reducible assumption | ((with_reducible apply Src.ext); with_reducible assumption) | with_reducible refine Ext.alloc ?_ _ | with_reducible refine Ext.drew ?_ | with_reducible refine Ext.drewN ?_ _ | ((with_reducible refine Ext.setCell' ?_ ?_ _); solve | omega | simp | (simp; omega)) | (with_reducible refine Ext.trans ?_ (by with_reducible assumption))))⟩
  · have HNO : Hid (¬ MapP (psOf rs)) := Lib.hid (fun hM => h6 (by have := hM.1; rwa [psOf_len] at this))
    go_enter Tryz.func86, Tryz.ntmps86
    go_wp2
    go_ret
    exact ⟨ret_bool (mapB_no HNO.out), by (repeat (first | with_reducible exact Ext.refl _ | with_reducible assumption | ((with_reducible apply Src.ext); with_reducible assumption) | with_reducible refine Ext.alloc ?_ _ | with_reducible refine Ext.drew ?_ | with_reducible refine Ext.drewN ?_ _ | ((with_reducible refine Ext.setCell' ?_ ?_ _); solve | omega | simp | (simp; omega)) | (with_reducible refine Ext.trans ?_ (by with_reducible assumption))))⟩

end Go.Proofs.YtdbheipjbjcikaaGreatDoor
