/- Contracts of the total area and its law, walked over the translation. -/
import Derived.Test.YteppjdoggjcdoaaMM
import Derived.Deep.RegionHeld3
import Derived.Deep.DeepCutAuto
import Derived.RegionTactic
import Derived.BigRegion
import Derived.WalkLawsBesides
import Derived.WalkSpells
import Derived.Lib.MinMax
import Derived.Outline
namespace Go.Proofs.Yteppjdoggjcdoaa
open Go.RowKit
attribute [local go_sem] ExtOf.cell ExtOf.frozen

noncomputable def mapC (L : List (List (Int × Int))) : Int := if mapB L = true then 0 else 1
theorem mapC_yes {L : List (List (Int × Int))} (h : mapB L = true) : mapC L = 0 := by simp [mapC, h]
theorem mapC_no {L : List (List (Int × Int))} (h : mapB L = false) : mapC L = 1 := by simp [mapC, h]
/-- twice the areas of the first k rings -/
def sumA (L : List (List (Int × Int))) (k : Nat) : Int := tot (fun i => areaA (L.getD i [])) k
noncomputable def totA (L : List (List (Int × Int))) : Int := if mapB L = true then sumA L L.length else 0
theorem sumA_bd {L : List (List (Int × Int))} (h : MapP L) : ∀ k, k ≤ L.length → 0 ≤ sumA L k ∧ sumA L k ≤ 24000000 * (k : Int)
  | 0, _ => by simp [sumA, tot]
  | k + 1, hk => by
    have := sumA_bd h k (by omega)
    have hb := areaA_bd (h.2.1 k (by omega))
    unfold sumA at *
    rw [tot]
    omega

set_option maxHeartbeats 6400000 in
theorem i_TotalArea (A : Option Addr) (c : Nat) (rs : List Rg) (w : World) (h : SlAt w 1 encR A rs) (hr : Rings w rs) (hl : rs.length ≤ 1048576) (hc : rs.length ≤ c) :
    Calls Try.prog 51 #[.slice A rs.length c] w fun e w' => e = .returned (.tuple #[.int .i64 (totA (psOf rs)), .int .i64 (mapC (psOf rs))]) ∧ Ext w w' := by
  by_cases hm : mapB (psOf rs) = true
  · rw [mapC_yes hm, show totA (psOf rs) = sumA (psOf rs) rs.length by unfold totA; rw [if_pos hm, psOf_len]]
    have hcall : Calls Try.prog 44 #[.slice A rs.length c] w fun e w' => e = .returned (.bool true) ∧ Ext w w' := as_bool (i_IsMap _ _ rs _ h hr hl hc) hm
    have HC := Lib.hid hcall
    have HM := Lib.hid (mapB_iff.1 hm)
    clear hm hcall
    go_enter Try.func51, Try.ntmps51
    (go_wp2_with fail; refine (HC.out).mono ?_; rintro e w1 ⟨rfl, hx1⟩; obtain ⟨hc1, hf1⟩ := hx1.rules; have hs1 := hx1.size; (try simp at hs1))
    go_wp2
    go_loopw [4, 12] (fun s i wr => ∃ k : Nat, k ≤ rs.length ∧ i = .int .i64 k ∧ s = .int .i64 (sumA (psOf rs) k) ∧ Ext w wr) (fun _ i _ => rs.length - (intOf i).toNat)
    case atStart => exact ⟨0, by omega, rfl, rfl, by (repeat (first | with_reducible exact Ext.refl _ | with_reducible assumption | ((with_reducible apply Src.ext); with_reducible assumption) | with_reducible refine Ext.alloc ?_ _ | with_reducible refine Ext.drew ?_ | with_reducible refine Ext.drewN ?_ _ | ((with_reducible refine Ext.setCell' ?_ ?_ _); solve | omega | simp | (simp; omega)) | (with_reducible refine Ext.trans ?_ (by with_reducible assumption))))⟩
    case round =>
      obtain ⟨k, hk, rfl, rfl, hxr⟩ := hrel
      have hsb := sumA_bd HM.out k (by rw [psOf_len]; exact hk)
      have h6 := HM.out.1
      rw [psOf_len] at h6
      by_cases hlt : k < rs.length
      · obtain ⟨b, off, rfl, hb, hcell⟩ := (h.ext hxr).rg hlt
        have hrk := (hr.ext hxr) _ (rg_mem hlt)
        have hring := HM.out.2.1 k (by rw [psOf_len]; exact hlt)
        rw [psOf_at hlt] at hring
        have HS : Hid (sumA (psOf rs) (k + 1) = sumA (psOf rs) k + areaA (rs.getD k rgD).2.2) := Lib.hid (by unfold sumA; rw [tot, psOf_at hlt])
        obtain ⟨r, hre⟩ : ∃ r, r = rs.getD k rgD := ⟨_, rfl⟩
        rw [← hre] at hcell hrk hring HS
        clear hre
        obtain ⟨h0, hl12, ho⟩ := ring_facts hring
        have hbd := areaA_bd hring
        have HO := Lib.hid ho
        have HR := Lib.hid hring
        have HK := Lib.hid hrk
        have hsum : areaA r.2.2 = ((areaZ r.2.2).natAbs : Int) := rfl
        rw [hsum] at HS hbd
        clear ho hring hrk hsum
        (go_wp2_with fail; refine (i_area _ _ r.2.2 _ (HK.out.1.ext (by (repeat (first | with_reducible exact Ext.refl _ | with_reducible assumption | ((with_reducible apply Src.ext); with_reducible assumption) | with_reducible refine Ext.alloc ?_ _ | with_reducible refine Ext.drew ?_ | with_reducible refine Ext.drewN ?_ _ | ((with_reducible refine Ext.setCell' ?_ ?_ _); solve | omega | simp | (simp; omega)) | (with_reducible refine Ext.trans ?_ (by with_reducible assumption)))))) h0 (by omega) HO.out).mono ?_; rintro e w2 ⟨rfl, hx2⟩; obtain ⟨hc2, hf2⟩ := hx2.rules; have hs2 := hx2.size; (try simp at hs2))
        (go_wp2_with fail; refine (i_absN _ _ (by omega) (by omega)).mono ?_; rintro e w' ⟨rfl, rfl⟩)
        go_wp2
        go_roundw
        case rel => exact ⟨k + 1, by omega, by go_num, by rw [HS.out], by (repeat (first | with_reducible exact Ext.refl _ | with_reducible assumption | ((with_reducible apply Src.ext); with_reducible assumption) | with_reducible refine Ext.alloc ?_ _ | with_reducible refine Ext.drew ?_ | with_reducible refine Ext.drewN ?_ _ | ((with_reducible refine Ext.setCell' ?_ ?_ _); solve | omega | simp | (simp; omega)) | (with_reducible refine Ext.trans ?_ (by with_reducible assumption))))⟩
        case measure => simp [intOf]; omega
      · obtain rfl : k = rs.length := by omega
        go_wp2
        go_ret2
        exact ⟨rfl, by (repeat (first | with_reducible exact Ext.refl _ | with_reducible assumption | ((with_reducible apply Src.ext); with_reducible assumption) | with_reducible refine Ext.alloc ?_ _ | with_reducible refine Ext.drew ?_ | with_reducible refine Ext.drewN ?_ _ | ((with_reducible refine Ext.setCell' ?_ ?_ _); solve | omega | simp | (simp; omega)) | (with_reducible refine Ext.trans ?_ (by with_reducible assumption))))⟩
  · have hm' : mapB (psOf rs) = false := Bool.eq_false_iff.2 hm
    rw [mapC_no hm', show totA (psOf rs) = 0 by unfold totA; rw [if_neg hm]]
    have hcall : Calls Try.prog 44 #[.slice A rs.length c] w fun e w' => e = .returned (.bool false) ∧ Ext w w' := as_bool (i_IsMap _ _ rs _ h hr hl hc) hm'
    have HC := Lib.hid hcall
    clear hm hm' hcall
    go_enter Try.func51, Try.ntmps51
    (go_wp2_with fail; refine (HC.out).mono ?_; rintro e w1 ⟨rfl, hx1⟩; obtain ⟨hc1, hf1⟩ := hx1.rules; have hs1 := hx1.size; (try simp at hs1))
    go_wp2
    go_ret2
    exact ⟨rfl, by (repeat (first | with_reducible exact Ext.refl _ | with_reducible assumption | ((with_reducible apply Src.ext); with_reducible assumption) | with_reducible refine Ext.alloc ?_ _ | with_reducible refine Ext.drew ?_ | with_reducible refine Ext.drewN ?_ _ | ((with_reducible refine Ext.setCell' ?_ ?_ _); solve | omega | simp | (simp; omega)) | (with_reducible refine Ext.trans ?_ (by with_reducible assumption))))⟩

set_option maxHeartbeats 6400000 in
theorem s_TotalArea (A : Option Addr) (c : Nat) (rs : List Rg) (w : World) (h : SlAt w 1 encR A rs) (hr : Rings w rs) (hl : rs.length ≤ 1048576) :
    Calls Try.prog 52 #[.slice A rs.length c] w fun e w' => e = .returned (.tuple #[.int .i64 (totA (psOf rs)), .int .i64 (mapC (psOf rs))]) ∧ Ext w w' := by
  by_cases hm : mapB (psOf rs) = true
  · rw [mapC_yes hm, show totA (psOf rs) = sumA (psOf rs) rs.length by unfold totA; rw [if_pos hm, psOf_len]]
    have hcall : Calls Try.prog 93 #[.slice A rs.length c] w fun e w' => e = .returned (.bool true) ∧ Ext w w' := as_bool (s_IsMap _ _ rs _ h hr hl) hm
    have HC := Lib.hid hcall
    have HM := Lib.hid (mapB_iff.1 hm)
    clear hm hcall
    go_enter Try.func52, Try.ntmps52
    (go_wp2_with fail; refine (HC.out).mono ?_; rintro e w1 ⟨rfl, hx1⟩; obtain ⟨hc1, hf1⟩ := hx1.rules; have hs1 := hx1.size; (try simp at hs1))
    go_wp2
    go_loopw [4, 5] (fun s i wr => ∃ k : Nat, k ≤ rs.length ∧ i = .int .i64 k ∧ s = .int .i64 (sumA (psOf rs) k) ∧ Ext w wr) (fun _ i _ => rs.length - (intOf i).toNat)
    case atStart => exact ⟨0, by omega, rfl, rfl, by (repeat (first | with_reducible exact Ext.refl _ | with_reducible assumption | ((with_reducible apply Src.ext); with_reducible assumption) | with_reducible refine Ext.alloc ?_ _ | with_reducible refine Ext.drew ?_ | with_reducible refine Ext.drewN ?_ _ | ((with_reducible refine Ext.setCell' ?_ ?_ _); solve | omega | simp | (simp; omega)) | (with_reducible refine Ext.trans ?_ (by with_reducible assumption))))⟩
    case round =>
      obtain ⟨k, hk, rfl, rfl, hxr⟩ := hrel
      have hsb := sumA_bd HM.out k (by rw [psOf_len]; exact hk)
      have h6 := HM.out.1
      rw [psOf_len] at h6
      by_cases hlt : k < rs.length
      · obtain ⟨b, off, rfl, hb, hcell⟩ := (h.ext hxr).rg hlt
        have hrk := (hr.ext hxr) _ (rg_mem hlt)
        have hring := HM.out.2.1 k (by rw [psOf_len]; exact hlt)
        rw [psOf_at hlt] at hring
        have HS : Hid (sumA (psOf rs) (k + 1) = sumA (psOf rs) k + areaA (rs.getD k rgD).2.2) := Lib.hid (by unfold sumA; rw [tot, psOf_at hlt])
        obtain ⟨r, hre⟩ : ∃ r, r = rs.getD k rgD := ⟨_, rfl⟩
        rw [← hre] at hcell hrk hring HS
        clear hre
        obtain ⟨h0, hl12, ho⟩ := ring_facts hring
        have hbd := areaA_bd hring
        have HO := Lib.hid ho
        have HR := Lib.hid hring
        have HK := Lib.hid hrk
        have hsum : areaA r.2.2 = ((areaZ r.2.2).natAbs : Int) := rfl
        rw [hsum] at HS hbd
        clear ho hring hrk hsum
        (go_wp2_with fail; refine (s_area _ _ r.2.2 _ (HK.out.1.ext (by (repeat (first | with_reducible exact Ext.refl _ | with_reducible assumption | ((with_reducible apply Src.ext); with_reducible assumption) | with_reducible refine Ext.alloc ?_ _ | with_reducible refine Ext.drew ?_ | with_reducible refine Ext.drewN ?_ _ | ((with_reducible refine Ext.setCell' ?_ ?_ _); solve | omega | simp | (simp; omega)) | (with_reducible refine Ext.trans ?_ (by with_reducible assumption)))))) h0 (by omega) HO.out).mono ?_; rintro e w2 ⟨rfl, hx2⟩; obtain ⟨hc2, hf2⟩ := hx2.rules; have hs2 := hx2.size; (try simp at hs2))
        (go_wp2_with fail; refine (s_absN _ _ (by omega) (by omega)).mono ?_; rintro e w' ⟨rfl, rfl⟩)
        go_wp2
        go_roundw
        case rel => exact ⟨k + 1, by omega, by go_num, by rw [HS.out], by (repeat (first | with_reducible exact Ext.refl _ | with_reducible assumption | ((with_reducible apply Src.ext); with_reducible assumption) | with_reducible refine Ext.alloc ?_ _ | with_reducible refine Ext.drew ?_ | with_reducible refine Ext.drewN ?_ _ | ((with_reducible refine Ext.setCell' ?_ ?_ _); solve | omega | simp | (simp; omega)) | (with_reducible refine Ext.trans ?_ (by with_reducible assumption))))⟩
        case measure => simp [intOf]; omega
      · obtain rfl : k = rs.length := by omega
        go_wp2
        go_ret2
        exact ⟨rfl, by (repeat (first | with_reducible exact Ext.refl _ | with_reducible assumption | ((with_reducible apply Src.ext); with_reducible assumption) | with_reducible refine Ext.alloc ?_ _ | with_reducible refine Ext.drew ?_ | with_reducible refine Ext.drewN ?_ _ | ((with_reducible refine Ext.setCell' ?_ ?_ _); solve | omega | simp | (simp; omega)) | (with_reducible refine Ext.trans ?_ (by with_reducible assumption))))⟩
  · have hm' : mapB (psOf rs) = false := Bool.eq_false_iff.2 hm
    rw [mapC_no hm', show totA (psOf rs) = 0 by unfold totA; rw [if_neg hm]]
    have hcall : Calls Try.prog 93 #[.slice A rs.length c] w fun e w' => e = .returned (.bool false) ∧ Ext w w' := as_bool (s_IsMap _ _ rs _ h hr hl) hm'
    have HC := Lib.hid hcall
    clear hm hm' hcall
    go_enter Try.func52, Try.ntmps52
    (go_wp2_with fail; refine (HC.out).mono ?_; rintro e w1 ⟨rfl, hx1⟩; obtain ⟨hc1, hf1⟩ := hx1.rules; have hs1 := hx1.size; (try simp at hs1))
    go_wp2
    go_ret2
    exact ⟨rfl, by (repeat (first | with_reducible exact Ext.refl _ | with_reducible assumption | ((with_reducible apply Src.ext); with_reducible assumption) | with_reducible refine Ext.alloc ?_ _ | with_reducible refine Ext.drew ?_ | with_reducible refine Ext.drewN ?_ _ | ((with_reducible refine Ext.setCell' ?_ ?_ _); solve | omega | simp | (simp; omega)) | (with_reducible refine Ext.trans ?_ (by with_reducible assumption))))⟩

end Go.Proofs.Yteppjdoggjcdoaa
