/- Contracts of the total area and its law, walked over the translation. -/
import Derived.Test.YthhkmkhilnglkaaMM
import Derived.Deep.RegionHeld3
import Derived.Deep.DeepCutAuto
import Derived.RegionTactic
import Derived.BigRegion
import Derived.WalkLawsBesides
import Derived.WalkSpells
import Derived.Lib.MinMax
import Derived.Outline
namespace Go.Proofs.Ythhkmkhilnglkaa
open Go.RowKit
attribute [local go_sem] ExtOf.cell ExtOf.frozen

noncomputable def mapC (L : List (List (Int × Int))) : Int := if mapB L = true then 0 else 1
theorem mapC_yes {L : List (List (Int × Int))} (h : mapB L = true) : mapC L = 0 := by simp [mapC, h]
theorem mapC_no {L : List (List (Int × Int))} (h : mapB L = false) : mapC L = 1 := by simp [mapC, h]
/-- twice the areas of the first k rings -/
def sumA (L : List (List (Int × Int))) (k : Nat) : Int := tot (fun i => areaA (L.getD i [])) k
noncomputable def totA (L : List (List (Int × Int))) : Int := if mapB L = true then sumA L L.length else 0
theorem sumA_bd {L : List (List (Int × Int))} (h : MapP L) : ∀ k, k ≤ L.length → 0 ≤ sumA L k ∧ sumA L k ≤ 24000000 * (k : Int)
  | 0, _ => by simp [sumA, tot]
  | k + 1, hk => by
    have := sumA_bd h k (by omega)
    have hb := areaA_bd (h.2.1 k (by omega))
    unfold sumA at *
    rw [tot]
    omega

set_option maxHeartbeats 6400000 in
theorem i_TotalArea (A : Option Addr) (c : Nat) (rs : List Rg) (w : World) (h : SlAt w 1 encR A rs) (hr : Rings w rs) (hl : rs.length ≤ 1048576) (hc : rs.length ≤ c) :
    Calls Try.prog 66 #[.slice A rs.length c] w fun e w' => e = .returned (.tuple #[.int .i64 (totA (psOf rs)), .int .i64 (mapC (psOf rs))]) ∧ Ext w w' := by
  by_cases hm : mapB (psOf rs) = true
  · rw [mapC_yes hm, show totA (psOf rs) = sumA (psOf rs) rs.length by unfold totA; rw [if_pos hm, psOf_len]]
    have hcall : Calls Try.prog 54 #[.slice A rs.length c] w fun e w' => e = .returned (.bool true) ∧ Ext w w' := as_bool (i_IsMap _ _ rs _ h hr hl hc) hm
    have HC := Lib.hid hcall
    have HM := Lib.hid (mapB_iff.1 hm)
    clear hm hcall
    go_enter Try.func66, Try.ntmps66
    (go_wp2_with fail; refine (HC.out).mono ?_; rintro e w1 ⟨rfl, hx1⟩; obtain ⟨hc1, hf1⟩ := hx1.rules; have hs1 := hx1.size; (try simp at hs1))
    go_wp2
    go_loopw [4, 12] (fun s i wr => ∃ k : Nat, k ≤ rs.length ∧ i = .int .i64 k ∧ s = .int .i64 (sumA (psOf rs) k) ∧ Ext w wr) (fun _ i _ => rs.length - (intOf i).toNat)
    case atStart => exact ⟨0, by omega, rfl, rfl, by (repeat (first | with_reducible exact Ext.refl _ | with_reducible assumption | ((with_reducible apply Src.ext); with_reducible assumption) | with_reducible refine Ext.alloc ?_ _ | with_reducible refine Ext.drew ?_ | with_reducible refine Ext.drewN ?_ _ | ((with_reducible refine Ext.setCell' ?_ ?_ _); solve | omega | simp | (simp; omega)) | (with_reducible refine Ext.trans ?_ (by with_reducible assumption))))⟩
    case round =>
      obtain ⟨k, hk, rfl, rfl, hxr⟩ := hrel
      have hsb := sumA_bd HM.out k (by rw [psOf_len]; exact hk)
      have h6 := HM.out.1
      rw [psOf_len] at h6
      by_cases hlt : k < rs.length
      · obtain ⟨b, off, rfl, hb, hcell⟩ := (h.ext hxr).rg hlt
        have hrk := (hr.ext hxr) _ (rg_mem hlt)
        have hring := HM.out.2.1 k (by rw [psOf_len]; exact hlt)
        rw [psOf_at hlt] at hring
        have HS : Hid (sumA (psOf rs) (k + 1) = sumA (psOf rs) k + areaA (rs.getD k rgD).2.2) := Lib.hid (by unfold sumA; rw [tot, psOf_at hlt])
        obtain ⟨r, hre⟩ : ∃ r, r = rs.getD k rgD := ⟨_, rfl⟩
        rw [← hre] at hcell hrk hring HS
        clear hre
        obtain ⟨h0, hl12, ho⟩ := ring_facts hring
        have hbd := areaA_bd hring
        have HO := Lib.hid ho
        have HR := Lib.hid hring
        have HK := Lib.hid hrk
        have hsum : areaA r.2.2 = ((areaZ r.2.2).natAbs : Int) := rfl
        rw [hsum] at HS hbd
        clear ho hring hrk hsum
        (go_wp2_with fail; refine (i_area _ _ r.2.2 _ (HK.out.1.ext (by (repeat (first | with_reducible exact Ext.refl _ | with_reducible assumption | ((with_reducible apply Src.ext); with_reducible assumption) | with_reducible refine Ext.alloc ?_ _ | with_reducible refine Ext.drew ?_ | with_reducible refine Ext.drewN ?_ _ | ((with_reducible refine Ext.setCell' ?_ ?_ _); solve | omega | simp | (simp; omega)) | (with_reducible refine Ext.trans ?_ (by with_reducible assumption)))))) h0 (by omega) HO.out).mono ?_; rintro e w2 ⟨rfl, hx2⟩; obtain ⟨hc2, hf2⟩ := hx2.rules; have hs2 := hx2.size; (try simp at hs2))
        (go_wp2_with fail; refine (i_absN _ _ (by omega) (by omega)).mono ?_; rintro e w' ⟨rfl, rfl⟩)
        go_wp2
        go_roundw
        case rel => exact ⟨k + 1, by omega, by go_num, by rw [HS.out], by (repeat (first | with_reducible exact Ext.refl _ | with_reducible assumption | ((with_reducible apply Src.ext); with_reducible assumption) | with_reducible refine Ext.alloc ?_ _ | with_reducible refine Ext.drew ?_ | with_reducible refine Ext.drewN ?_ _ | ((with_reducible refine Ext.setCell' ?_ ?_ _); solve | omega | simp | (simp; omega)) | (with_reducible refine Ext.trans ?_ (by with_reducible assumption))))⟩
        case measure => simp [intOf]; omega
      · obtain rfl : k = rs.length := by omega
        go_wp2
        go_ret2
        exact ⟨rfl, by (repeat (first | with_reducible exact Ext.refl _ | with_reducible assumption | ((with_reducible apply Src.ext); with_reducible assumption) | with_reducible refine Ext.alloc ?_ _ | with_reducible refine Ext.drew ?_ | with_reducible refine Ext.drewN ?_ _ | ((with_reducible refine Ext.setCell' ?_ ?_ _); solve | omega | simp | (simp; omega)) | (with_reducible refine Ext.trans ?_ (by with_reducible assumption))))⟩
  · have hm' : mapB (psOf rs) = false := Bool.eq_false_iff.2 hm
    rw [mapC_no hm', show totA (psOf rs) = 0 by unfold totA; rw [if_neg hm]]
    have hcall : Calls Try.prog 54 #[.slice A rs.length c] w fun e w' => e = .returned (.bool false) ∧ Ext w w' := as_bool (i_IsMap _ _ rs _ h hr hl hc) hm'
    have HC := Lib.hid hcall
    clear hm hm' hcall
    go_enter Try.func66, Try.ntmps66
    (go_wp2_with fail; refine (HC.out).mono ?_; rintro e w1 ⟨rfl, hx1⟩; obtain ⟨hc1, hf1⟩ := hx1.rules; have hs1 := hx1.size; (try simp at hs1))
    go_wp2
    go_ret2
    exact ⟨rfl, by (repeat (first | with_reducible exact Ext.refl _ | with_reducible assumption | ((with_reducible apply Src.ext); with_reducible assumption) | with_reducible refine Ext.alloc ?_ _ | with_reducible refine Ext.drew ?_ | with_reducible refine Ext.drewN ?_ _ | ((with_reducible refine Ext.setCell' ?_ ?_ _); solve | omega | simp | (simp; omega)) | (with_reducible refine Ext.trans ?_ (by with_reducible assumption))))⟩

set_option maxHeartbeats 6400000 in
theorem s_TotalArea (A : Option Addr) (c : Nat) (rs : List Rg) (w : World) (h : SlAt w 1 encR A rs) (hr : Rings w rs) (hl : rs.length ≤ 1048576) :
    Calls Try.prog 65 #[.slice A rs.length c] w fun e w' => e = .returned (.tuple #[.int .i64 (totA (psOf rs)), .int .i64 (mapC (psOf rs))]) ∧ Ext w w' := by
  by_cases hm : mapB (psOf rs) = true
  · rw [mapC_yes hm, show totA (psOf rs) = sumA (psOf rs) rs.length by unfold totA; rw [if_pos hm, psOf_len]]
    have hcall : Calls Try.prog 52 #[.slice A rs.length c] w fun e w' => e = .returned (.bool true) ∧ Ext w w' := as_bool (s_IsMap _ _ rs _ h hr hl) hm
    have HC := Lib.hid hcall
    have HM := Lib.hid (mapB_iff.1 hm)
    clear hm hcall
    go_enter Try.func65, Try.ntmps65
    (go_wp2_with fail; refine (HC.out).mono ?_; rintro e w1 ⟨rfl, hx1⟩; obtain ⟨hc1, hf1⟩ := hx1.rules; have hs1 := hx1.size; (try simp at hs1))
    go_wp2
    go_loopw [4, 5] (fun s i wr => ∃ k : Nat, k ≤ rs.length ∧ i = .int .i64 k ∧ s = .int .i64 (sumA (psOf rs) k) ∧ Ext w wr) (fun _ i _ => rs.length - (intOf i).toNat)
    case atStart => exact ⟨0, by omega, rfl, rfl, by (repeat (first | with_reducible exact Ext.refl _ | with_reducible assumption | ((with_reducible apply Src.ext); with_reducible assumption) | with_reducible refine Ext.alloc ?_ _ | with_reducible refine Ext.drew ?_ | with_reducible refine Ext.drewN ?_ _ | ((with_reducible refine Ext.setCell' ?_ ?_ _); solve | omega | simp | (simp; omega)) | (with_reducible refine Ext.trans ?_ (by with_reducible assumption))))⟩
    case round =>
      obtain ⟨k, hk, rfl, rfl, hxr⟩ := hrel
      have hsb := sumA_bd HM.out k (by rw [psOf_len]; exact hk)
      have h6 := HM.out.1
      rw [psOf_len] at h6
      by_cases hlt : k < rs.length
      · obtain ⟨b, off, rfl, hb, hcell⟩ := (h.ext hxr).rg hlt
        have hrk := (hr.ext hxr) _ (rg_mem hlt)
        have hring := HM.out.2.1 k (by rw [psOf_len]; exact hlt)
        rw [psOf_at hlt] at hring
        have HS : Hid (sumA (psOf rs) (k + 1) = sumA (psOf rs) k + areaA (rs.getD k rgD).2.2) := Lib.hid (by unfold sumA; rw [tot, psOf_at hlt])
        obtain ⟨r, hre⟩ : ∃ r, r = rs.getD k rgD := ⟨_, rfl⟩
        rw [← hre] at hcell hrk hring HS
        clear hre
        obtain ⟨h0, hl12, ho⟩ := ring_facts hring
        have hbd := areaA_bd hring
        have HO := Lib.hid ho
        have HR := Lib.hid hring
        have HK := Lib.hid hrk
        have hsum : areaA r.2.2 = ((areaZ r.2.2).natAbs : Int) := rfl
        rw [hsum] at HS hbd
        clear ho hring hrk hsum
        (go_wp2_with fail; refine (s_area _ _ r.2.2 _ (HK.out.1.ext (by (repeat (first | with_reducible exact Ext.refl _ | with_reducible assumption | ((with_reducible apply Src.ext); with_reducible assumption) | with_reducible refine Ext.alloc ?_ _ | with_reducible refine Ext.drew ?_ | with_reducible refine Ext.drewN ?_ _ | ((with_reducible refine Ext.setCell' ?_ ?_ _); solve | omega | simp | (simp; omega)) | (with_reducible refine Ext.trans ?_ (by with_reducible assumption)))))) h0 (by omega) HO.out).mono ?_; rintro e w2 ⟨rfl, hx2⟩; obtain ⟨hc2, hf2⟩ := hx2.rules; have hs2 := hx2.size; (try simp at hs2))
        (go_wp2_with fail; refine (s_absN _ _ (by omega) (by omega)).mono ?_; rintro e w' ⟨rfl, rfl⟩)
        go_wp2
        go_roundw
        case rel => exact ⟨k + 1, by omega, by go_num, by rw [HS.out], by (repeat (first | with_reducible exact Ext.refl _ | with_reducible assumption | ((with_reducible apply Src.ext); with_reducible assumption) | with_reducible refine Ext.alloc ?_ _ | with_reducible refine Ext.drew ?_ | with_reducible refine Ext.drewN ?_ _ | ((with_reducible refine Ext.setCell' ?_ ?_ _); solve | omega | simp | (simp; omega)) | (with_reducible refine Ext.trans ?_ (by with_reducible assumption))))⟩
        case measure => simp [intOf]; omega
      · obtain rfl : k = rs.length := by omega
        go_wp2
        go_ret2
        exact ⟨rfl, by (repeat (first | with_reducible exact Ext.refl _ | with_reducible assumption | ((with_reducible apply Src.ext); with_reducible assumption) | with_reducible refine Ext.alloc ?_ _ | with_reducible refine Ext.drew ?_ | with_reducible refine Ext.drewN ?_ _ | ((with_reducible refine Ext.setCell' ?_ ?_ _); solve | omega | simp | (simp; omega)) | (with_reducible refine Ext.trans ?_ (by with_reducible assumption))))⟩
  · have hm' : mapB (psOf rs) = false := Bool.eq_false_iff.2 hm
    rw [mapC_no hm', show totA (psOf rs) = 0 by unfold totA; rw [if_neg hm]]
    have hcall : Calls Try.prog 52 #[.slice A rs.length c] w fun e w' => e = .returned (.bool false) ∧ Ext w w' := as_bool (s_IsMap _ _ rs _ h hr hl) hm'
    have HC := Lib.hid hcall
    clear hm hm' hcall
    go_enter Try.func65, Try.ntmps65
    (go_wp2_with fail; refine (HC.out).mono ?_; rintro e w1 ⟨rfl, hx1⟩; obtain ⟨hc1, hf1⟩ := hx1.rules; have hs1 := hx1.size; (try simp at hs1))
    go_wp2
    go_ret2
    exact ⟨rfl, by (repeat (first | with_reducible exact Ext.refl _ | with_reducible assumption | ((with_reducible apply Src.ext); with_reducible assumption) | with_reducible refine Ext.alloc ?_ _ | with_reducible refine Ext.drew ?_ | with_reducible refine Ext.drewN ?_ _ | ((with_reducible refine Ext.setCell' ?_ ?_ _); solve | omega | simp | (simp; omega)) | (with_reducible refine Ext.trans ?_ (by with_reducible assumption))))⟩
set_option maxHeartbeats 6400000 in
theorem fnExactTotalArea_walk (A : Option Addr) (c : Nat) (rs : List Rg) (w : World) (h : ArgR w A rs) :
    Calls Try.prog 13 #[.slice A rs.length c] w fun e w' => e = .returned (.bool true) ∧ Ext w w' := by
  go_enter Try.func13, Try.ntmps13
  go_wp2_with fail
  refine (l_szPointSS _ _ rs 1048576 _ h.sl h.len h.lens (by omega) (by omega)).mono ?_
  rintro e w' ⟨⟨z, rfl, hz1, hz⟩, rfl⟩
  rcases hz with rfl | ⟨hz0, hl, hs, _⟩
  · go_wp2
    go_ret
    exact ⟨rfl, Ext.refl _⟩
  · have HS := Lib.hid hs
    clear hs
    go_wp2_with fail
    refine (l_toPointSS _ _ rs _ h.sl h.rg hl HS.out).mono ?_
    rintro e w1 ⟨q1, cs1, rfl, hq1, hp1, hB1, hc1, hO1, hx1⟩
    have HP1 := Lib.hid hp1
    have HC1 := Lib.hid hc1
    have HQ1 := Lib.hid hq1
    have HO1 := Lib.hid hO1
    clear hp1 hc1 hO1
    go_wp2_with fail
    rw [← hq1]
    refine (s_TotalArea _ _ q1 _ (hB1.sl HC1.out len_encR) HO1.out.rings (by omega)).mono ?_
    rintro e w2 ⟨rfl, hx2⟩
    rw [HP1.out, hq1]
    clear hq1
    have hX2 := hx1.trans hx2
    clear hB1
    go_wp2_with fail
    refine (l_toPointSS _ _ rs _ (h.ext hX2).sl (h.ext hX2).rg hl HS.out).mono ?_
    rintro e w3 ⟨q3, cs3, rfl, hq3, hp3, hB3, hc3, hO3, hx3⟩
    have HP3 := Lib.hid hp3
    have HC3 := Lib.hid hc3
    have HQ3 := Lib.hid hq3
    have HO3 := Lib.hid hO3
    clear hp3 hc3 hO3
    go_wp2_with fail
    rw [← hq3]
    refine (i_TotalArea _ _ q3 _ (hB3.sl HC3.out len_encR) HO3.out.rings (by omega) (Nat.le_refl _)).mono ?_
    rintro e w4 ⟨rfl, hx4⟩
    rw [HP3.out, hq3]
    clear hq3
    have hX4 := (hX2.trans hx3).trans hx4
    have hB34 := hB3.ext hx4
    have HO34 := Lib.hid (HO3.out.ext hx4)
    generalize totA (psOf rs) = ta
    generalize mapC (psOf rs) = mc
    have ht : (ta != ta) = false := by simp
    have hm : (mc != mc) = false := by simp
    clear hB3
    go_wp2_with fail
    refine (l_toPointSS _ _ rs _ (h.ext hX4).sl (h.ext hX4).rg hl HS.out).mono ?_
    rintro e w5 ⟨q5, cs5, rfl, hq5, hp5, hB5, hc5, hO5, hx5⟩
    have HP5 := Lib.hid hp5
    have HC5 := Lib.hid hc5
    have HQ5 := Lib.hid hq5
    have HO5 := Lib.hid hO5
    clear hp5 hc5 hO5 hq5
    go_wp2_with fail
    refine (l_eqSS _ _ _ _ _ q3 q5 _ ((hB34.ext hx5).sl HC3.out len_encR) (hB5.sl HC5.out len_encR) (HO34.out.ext hx5).rings HO5.out.rings (by rw [HP3.out, HP5.out]) HQ3.out.symm hl).mono ?_
    rintro e w6 ⟨rfl, hx6⟩
    go_wp2
    go_ret
    exact ⟨rfl, (hX4.trans hx5).trans hx6⟩

end Go.Proofs.Ythhkmkhilnglkaa
