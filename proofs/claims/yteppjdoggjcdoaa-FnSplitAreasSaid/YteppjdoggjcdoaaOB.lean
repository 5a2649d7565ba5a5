/- Contracts of the outer boundary, walked over the translation. -/
import Derived.Test.YteppjdoggjcdoaaOA
import Derived.Test.YteppjdoggjcdoaaMN
import Derived.Deep.RegionHeld3
import Derived.Deep.DeepCutAuto
import Derived.RegionTactic
import Derived.BigRegion
import Derived.WalkLawsBesides
import Derived.WalkSpells
import Derived.Lib.MinMax
import Derived.Outline
namespace Go.Proofs.Yteppjdoggjcdoaa
open Go.RowKit
attribute [local go_sem] ExtOf.cell ExtOf.frozen

/-- the edges of the first k rings -/
def alTo (L : List (List (Int × Int))) (k : Nat) : List Ed := (L.take k).flatMap fun ps => edL (normS ps)
theorem alTo_succ {L : List (List (Int × Int))} {k : Nat} (hk : k < L.length) : alTo L (k + 1) = alTo L k ++ edL (normS (L.getD k [])) := by
  unfold alTo
  rw [List.take_succ_eq_append_getElem hk, List.flatMap_append, show L.getD k [] = L[k] by simp [List.getD, hk]]
  simp
theorem alTo_len {L : List (List (Int × Int))} (h : MapP L) : ∀ k, k ≤ L.length → (alTo L k).length ≤ 12 * k
  | 0, _ => by simp [alTo]
  | k + 1, hk => by
    have := alTo_len h k (by omega)
    have hr := (ring_facts (h.2.1 k (by omega))).2.1
    rw [alTo_succ (by omega), List.length_append, edL_len, normS_len]
    omega
/-- whether an edge is not shared -/
def lone (all : List Ed) (e : Ed) : Bool := !hasE all e.2.1 e.2.2 e.1.1 e.1.2
def outTo (all : List Ed) (k : Nat) : List Ed := (all.take k).filter (lone all)
theorem outTo_yes {all : List Ed} {k : Nat} (hk : k < all.length) (h : lone all (all.getD k edD) = true) : outTo all (k + 1) = outTo all k ++ [all.getD k edD] := by
  unfold outTo
  rw [List.take_succ_eq_append_getElem hk, List.filter_append]
  have e : all.getD k edD = all[k] := by simp [List.getD, hk]
  rw [e] at h ⊢
  simp [h]
theorem outTo_no {all : List Ed} {k : Nat} (hk : k < all.length) (h : lone all (all.getD k edD) = false) : outTo all (k + 1) = outTo all k := by
  unfold outTo
  rw [List.take_succ_eq_append_getElem hk, List.filter_append]
  have e : all.getD k edD = all[k] := by simp [List.getD, hk]
  rw [e] at h
  simp [h]
theorem outTo_len (all : List Ed) (k : Nat) : (outTo all k).length ≤ k := by
  unfold outTo
  exact Nat.le_trans (List.length_filter_le _ _) (by rw [List.length_take]; omega)
def allE (L : List (List (Int × Int))) : List Ed := alTo L L.length
/-- what OuterBoundary returns -/
noncomputable def obP (L : List (List (Int × Int))) : List Ed := if mapB L = true then outTo (allE L) (allE L).length else []

set_option maxRecDepth 20000 in
set_option maxHeartbeats 12800000 in
theorem i_OuterBoundary (A : Option Addr) (c : Nat) (rs : List Rg) (w : World) (h : SlAt w 1 encR A rs) (hr : Rings w rs) (hl : rs.length ≤ 1048576) (hc : rs.length ≤ c) :
    Calls Try.prog 41 #[.slice A rs.length c] w fun e w' => ∃ v, e = .returned (.tuple #[v, .int .i64 (mapC (psOf rs))]) ∧ OwE w' w.heap.size v (obP (psOf rs)) ∧ Ext w w' := by
  by_cases hm : mapB (psOf rs) = true
  · obtain ⟨al, hal⟩ : ∃ al, al = allE (psOf rs) := ⟨_, rfl⟩
    rw [mapC_yes hm, show obP (psOf rs) = outTo al al.length by unfold obP; rw [if_pos hm, hal]]
    have hcall : Calls Try.prog 44 #[.slice A rs.length c] w fun e w' => e = .returned (.bool true) ∧ Ext w w' := as_bool (i_IsMap _ _ rs _ h hr hl hc) hm
    have HC := Lib.hid hcall
    have HM := Lib.hid (mapB_iff.1 hm)
    have HAL := Lib.hid hal
    clear hm hcall hal
    go_enter Try.func41, Try.ntmps41
    (go_wp2_with fail; refine (HC.out).mono ?_; rintro e w1 ⟨rfl, hx1⟩; obtain ⟨hc1, hf1⟩ := hx1.rules; have hs1 := hx1.size; (try simp at hs1))
    have HV0 := Lib.hid (Own.nil w1 w1.heap.size : OwE w1 w1.heap.size (.slice none 0 0) (alTo (psOf rs) 0))
    clear hc1 hf1
    go_wp2
    go_loopw [4, 15] (fun v i wr => ∃ k : Nat, k ≤ rs.length ∧ i = .int .i64 k ∧ Hid (OwE wr w1.heap.size v (alTo (psOf rs) k)) ∧ Ext w1 wr) (fun _ i _ => rs.length - (intOf i).toNat)
    case atStart => exact ⟨0, by omega, rfl, HV0, by (repeat (first | with_reducible exact Ext.refl _ | with_reducible assumption | ((with_reducible apply Src.ext); with_reducible assumption) | with_reducible refine Ext.alloc ?_ _ | with_reducible refine Ext.drew ?_ | with_reducible refine Ext.drewN ?_ _ | ((with_reducible refine Ext.setCell' ?_ ?_ _); solve | omega | simp | (simp; omega)) | (with_reducible refine Ext.trans ?_ (by with_reducible assumption))))⟩
    case round =>
      obtain ⟨k, hk, rfl, HV, hxr⟩ := hrel
      have hsr := hxr.size
      have h6 := HM.out.1
      rw [psOf_len] at h6
      have hal1 := alTo_len HM.out k (by rw [psOf_len]; exact hk)
      have HAK := Lib.hid hal1
      clear hal1
      by_cases hlt : k < rs.length
      · obtain ⟨b, off, rfl, hb, hcell⟩ := ((h.ext hx1).ext hxr).rg hlt
        have hrk := ((hr.ext hx1).ext hxr) _ (rg_mem hlt)
        have hring := HM.out.2.1 k (by rw [psOf_len]; exact hlt)
        rw [psOf_at hlt] at hring
        have hsu := alTo_succ (L := psOf rs) (k := k) (by rw [psOf_len]; exact hlt)
        rw [psOf_at hlt] at hsu
        obtain ⟨r, hre⟩ : ∃ r, r = rs.getD k rgD := ⟨_, rfl⟩
        rw [← hre] at hcell hrk hring hsu
        clear hre
        obtain ⟨h0, hl12, ho⟩ := ring_facts hring
        have hen : (edL (normI r.2.2)).length = r.2.2.length := by rw [edL_len, normI_len]
        have HNS : Hid (edL (normI r.2.2) = edL (normS r.2.2)) := Lib.hid (by rw [norm_same (ringB_iff.1 hring)])
        have HE := Lib.hid hen
        have HSU := Lib.hid hsu
        have HO := Lib.hid ho
        have HK := Lib.hid hrk
        clear ho hring hrk hen hsu
        go_wp2_with fail
        refine (i_edgesOf _ _ r.2.2 _ HK.out.1 h0 (by omega) HO.out).mono ?_
        rintro e w2 ⟨v2, rfl, hO2, hx2⟩
        have hs2 := hx2.size
        obtain ⟨A2, c2, rfl, hS2, _, _, _⟩ := hO2.sl len_encE
        clear hO2
        go_wp2_with (at_builtin; refine wpList_append_sl elE len_encE one_encE rfl _ _ rfl rfl (HV.out.ext hx2) (xs := edL (normI r.2.2)) rfl hS2 (by rw [HE.out]; have := HAK.out; unfold maxLen; omega) (by rw [HE.out]; have := HAK.out; omega) (by omega) ?_)
        intro v' w5 hown hgrow _
        rw [HNS.out, ← HSU.out] at hown
        have HV2 := Lib.hid hown
        have hx5 : Ext w1 w5 := (hxr.trans hx2).grown hgrow (fun q hq => (HV.out.row q hq).1)
        clear hown hgrow
        go_wp2
        go_roundw
        case rel => exact ⟨k + 1, by omega, by go_num, HV2, hx5⟩
        case measure => simp [intOf]; omega
      · obtain rfl : k = rs.length := by omega
        have hall : alTo (psOf rs) rs.length = al := by rw [HAL.out]; unfold allE; rw [psOf_len]
        have hO := HV.out
        rw [hall] at hO
        obtain ⟨A4, c4, hv, hS4, _, _, hA4⟩ := hO.sl len_encE
        subst hv
        have hal2 : al.length ≤ 72 := by have := HAK.out; rw [hall] at this; omega
        clear hO
        obtain ⟨W2, hW2⟩ : ∃ W : World, W = wr := ⟨_, rfl⟩
        rw [← hW2] at hS4 hxr hsr
        have HW2 := Lib.hid hW2
        have hX2 : Ext w W2 := hx1.trans hxr
        obtain ⟨n, hn⟩ : ∃ n, n = al.length := ⟨_, rfl⟩
        rw [← hn] at hal2 ⊢
        have HN := Lib.hid hn
        have HO0 : ∀ W, W2.heap.size ≤ W.heap.size → OwE W W2.heap.size (.slice none 0 0) (outTo al 0) := fun W _ => Own.nil _ _
        clear hW2 hn hall
        go_wp2
        go_loopw [5, 26] (fun v i wr => ∃ k : Nat, k ≤ n ∧ i = .int .i64 k ∧ Hid (OwE wr W2.heap.size v (outTo al k)) ∧ Ext W2 wr) (fun _ i _ => n - (intOf i).toNat)
        case atStart => exact ⟨0, by omega, rfl, HO0 _ (by rw [HW2.out]; exact Nat.le_refl _), by rw [HW2.out]; (repeat (first | with_reducible exact Ext.refl _ | with_reducible assumption | ((with_reducible apply Src.ext); with_reducible assumption) | with_reducible refine Ext.alloc ?_ _ | with_reducible refine Ext.drew ?_ | with_reducible refine Ext.drewN ?_ _ | ((with_reducible refine Ext.setCell' ?_ ?_ _); solve | omega | simp | (simp; omega)) | (with_reducible refine Ext.trans ?_ (by with_reducible assumption))))⟩
        case round =>
          obtain ⟨k, hk, rfl, HU, hx3⟩ := hrel
          have hs3 := hx3.size
          have hol := outTo_len al k
          have HOL := Lib.hid hol
          clear hol
          by_cases hlt : k < n
          · have hkn : k < al.length := by rw [← HN.out]; exact hlt
            obtain ⟨b, off, a1, a2, a3, a4, rfl, hb, he, d0, d1, d2, d3⟩ := (hS4.ext hx3).ed hkn
            have HE := Lib.hid he
            clear he
            by_cases hh : hasE al a3 a4 a1 a2 = true
            · have hno := outTo_no hkn (show lone al (al.getD k edD) = false by rw [show al.getD k edD = ((a1, a2), (a3, a4)) from HE.out]; simp [lone, hh])
              have HNO := Lib.hid hno
              have hcall : ∀ W, SlAt W 4 encE (some ⟨b, off, none⟩) al → Calls Try.prog 96 #[.slice (some ⟨b, off, none⟩) n c4, .agg #[.int .i64 a3, .int .i64 a4, .int .i64 a1, .int .i64 a2]] W fun e w' => e = .returned (.bool true) ∧ Ext W w' := fun W h => as_bool (i_ContainsE _ _ _ al _ _ _ _ _ h HN.out (by omega)) hh
              have HCC := Lib.hid hcall
              clear hh hno hcall hkn
              go_wp2_with fail
              refine (i_back _ _ _ _ _).mono ?_
              rintro e w6 ⟨rfl, hx6⟩
              go_wp2_with fail
              refine (HCC.out _ ((hS4.ext hx3).ext (by (repeat (first | with_reducible exact Ext.refl _ | with_reducible assumption | ((with_reducible apply Src.ext); with_reducible assumption) | with_reducible refine Ext.alloc ?_ _ | with_reducible refine Ext.drew ?_ | with_reducible refine Ext.drewN ?_ _ | ((with_reducible refine Ext.setCell' ?_ ?_ _); solve | omega | simp | (simp; omega)) | (with_reducible refine Ext.trans ?_ (by with_reducible assumption))))))).mono ?_
              rintro e w7 ⟨rfl, hx7⟩
              go_wp2
              go_roundw
              case rel => exact ⟨k + 1, by omega, by go_num, by rw [HNO.out]; exact Lib.hid (HU.out.ext (by (repeat (first | with_reducible exact Ext.refl _ | with_reducible assumption | ((with_reducible apply Src.ext); with_reducible assumption) | with_reducible refine Ext.alloc ?_ _ | with_reducible refine Ext.drew ?_ | with_reducible refine Ext.drewN ?_ _ | ((with_reducible refine Ext.setCell' ?_ ?_ _); solve | omega | simp | (simp; omega)) | (with_reducible refine Ext.trans ?_ (by with_reducible assumption)))))), by (repeat (first | with_reducible exact Ext.refl _ | with_reducible assumption | ((with_reducible apply Src.ext); with_reducible assumption) | with_reducible refine Ext.alloc ?_ _ | with_reducible refine Ext.drew ?_ | with_reducible refine Ext.drewN ?_ _ | ((with_reducible refine Ext.setCell' ?_ ?_ _); solve | omega | simp | (simp; omega)) | (with_reducible refine Ext.trans ?_ (by with_reducible assumption))))⟩
              case measure => simp [intOf]; omega
            · have hh' : hasE al a3 a4 a1 a2 = false := Bool.eq_false_iff.2 hh
              have hye := outTo_yes hkn (show lone al (al.getD k edD) = true by rw [show al.getD k edD = ((a1, a2), (a3, a4)) from HE.out]; simp [lone, hh'])
              obtain ⟨ek, hek⟩ : ∃ ek, ek = al.getD k edD := ⟨_, rfl⟩
              rw [← hek] at hye
              have HEK : Hid (ek = ((a1, a2), (a3, a4))) := Lib.hid (by rw [hek]; exact HE.out)
              have HYE := Lib.hid hye
              clear hek
              have hcall : ∀ W, SlAt W 4 encE (some ⟨b, off, none⟩) al → Calls Try.prog 96 #[.slice (some ⟨b, off, none⟩) n c4, .agg #[.int .i64 a3, .int .i64 a4, .int .i64 a1, .int .i64 a2]] W fun e w' => e = .returned (.bool false) ∧ Ext W w' := fun W h => as_bool (i_ContainsE _ _ _ al _ _ _ _ _ h HN.out (by omega)) hh'
              have HCC := Lib.hid hcall
              clear hh hh' hye hcall hkn
              go_wp2_with fail
              refine (i_back _ _ _ _ _).mono ?_
              rintro e w6 ⟨rfl, hx6⟩
              go_wp2_with fail
              refine (HCC.out _ ((hS4.ext hx3).ext (by (repeat (first | with_reducible exact Ext.refl _ | with_reducible assumption | ((with_reducible apply Src.ext); with_reducible assumption) | with_reducible refine Ext.alloc ?_ _ | with_reducible refine Ext.drew ?_ | with_reducible refine Ext.drewN ?_ _ | ((with_reducible refine Ext.setCell' ?_ ?_ _); solve | omega | simp | (simp; omega)) | (with_reducible refine Ext.trans ?_ (by with_reducible assumption))))))).mono ?_
              rintro e w7 ⟨rfl, hx7⟩
              have B9 : Blk w7 wr.heap.size 58 #[.int .i64 a1, .int .i64 a2, .int .i64 a3, .int .i64 a4] := by (repeat (first | with_reducible assumption | ((with_reducible apply Blk.new); solve | simp | rfl) | with_reducible apply Blk.drew | with_reducible apply Blk.drewN | ((with_reducible apply Blk.far'); solve | omega | simp | (simp; omega)) | with_reducible apply Blk.set_ | with_reducible apply Blk.alloc | ((with_reducible apply Blk.ext'); with_reducible assumption) | ((with_reducible apply Blk.but'); (with_reducible assumption); solve | omega | (simp; omega))))
              have z0 : w7.cell? ⟨wr.heap.size, 0, none⟩ = some (.int .i64 a1) := B9.cell 0
              have z1 : w7.cell? ⟨wr.heap.size, 1, none⟩ = some (.int .i64 a2) := B9.cell 1
              have z2 : w7.cell? ⟨wr.heap.size, 2, none⟩ = some (.int .i64 a3) := B9.cell 2
              have z3 : w7.cell? ⟨wr.heap.size, 3, none⟩ = some (.int .i64 a4) := B9.cell 3
              have hs6 := hx6.size
              have hs7 := hx7.size
              simp at hs6
              clear B9
              go_wp2_with (at_builtin; refine wpList_append_sl elE len_encE one_encE rfl _ _ rfl rfl (HU.out.ext (by (repeat (first | with_reducible exact Ext.refl _ | with_reducible assumption | ((with_reducible apply Src.ext); with_reducible assumption) | with_reducible refine Ext.alloc ?_ _ | with_reducible refine Ext.drew ?_ | with_reducible refine Ext.drewN ?_ _ | ((with_reducible refine Ext.setCell' ?_ ?_ _); solve | omega | simp | (simp; omega)) | (with_reducible refine Ext.trans ?_ (by with_reducible assumption)))))) (xs := [ek]) rfl (blk_e1 (by (repeat (first | with_reducible assumption | ((with_reducible apply Blk.new); solve | simp | rfl) | with_reducible apply Blk.drew | with_reducible apply Blk.drewN | ((with_reducible apply Blk.far'); solve | omega | simp | (simp; omega)) | with_reducible apply Blk.set_ | with_reducible apply Blk.alloc | ((with_reducible apply Blk.ext'); with_reducible assumption) | ((with_reducible apply Blk.but'); (with_reducible assumption); solve | omega | (simp; omega))))) HEK.out) (by have := HOL.out; simp; unfold maxLen; omega) (by have := HOL.out; simp; omega) (by first | omega | (simp; omega)) ?_)
              intro v' w8 hown hgrow _
              rw [← HYE.out] at hown
              have HV2 := Lib.hid hown
              have hx8 : Ext W2 w8 := by
                refine Ext.grown ?_ hgrow (fun q hq => (HU.out.row q hq).1)
                (repeat (first | with_reducible exact Ext.refl _ | with_reducible assumption | ((with_reducible apply Src.ext); with_reducible assumption) | with_reducible refine Ext.alloc ?_ _ | with_reducible refine Ext.drew ?_ | with_reducible refine Ext.drewN ?_ _ | ((with_reducible refine Ext.setCell' ?_ ?_ _); solve | omega | simp | (simp; omega)) | (with_reducible refine Ext.trans ?_ (by with_reducible assumption))))
              clear hown hgrow
              go_wp2
              go_roundw
              case rel => exact ⟨k + 1, by omega, by go_num, HV2, hx8⟩
              case measure => simp [intOf]; omega
          · obtain rfl : k = n := by omega
            go_wp2
            go_ret2
            exact ⟨_, rfl, by have hv := HU.out; rw [HN.out] at hv; exact hv.less hX2.size, hX2.trans hx3⟩
  · have hm' : mapB (psOf rs) = false := Bool.eq_false_iff.2 hm
    rw [mapC_no hm', show obP (psOf rs) = [] by unfold obP; rw [if_neg hm]]
    have hcall : Calls Try.prog 44 #[.slice A rs.length c] w fun e w' => e = .returned (.bool false) ∧ Ext w w' := as_bool (i_IsMap _ _ rs _ h hr hl hc) hm'
    have HC := Lib.hid hcall
    clear hm hm' hcall
    go_enter Try.func41, Try.ntmps41
    (go_wp2_with fail; refine (HC.out).mono ?_; rintro e w1 ⟨rfl, hx1⟩; obtain ⟨hc1, hf1⟩ := hx1.rules; have hs1 := hx1.size; (try simp at hs1))
    go_wp2
    go_ret2
    exact ⟨_, rfl, Own.nil _ _, by (repeat (first | with_reducible exact Ext.refl _ | with_reducible assumption | ((with_reducible apply Src.ext); with_reducible assumption) | with_reducible refine Ext.alloc ?_ _ | with_reducible refine Ext.drew ?_ | with_reducible refine Ext.drewN ?_ _ | ((with_reducible refine Ext.setCell' ?_ ?_ _); solve | omega | simp | (simp; omega)) | (with_reducible refine Ext.trans ?_ (by with_reducible assumption))))⟩

set_option maxRecDepth 20000 in
set_option maxHeartbeats 12800000 in
theorem s_OuterBoundary (A : Option Addr) (c : Nat) (rs : List Rg) (w : World) (h : SlAt w 1 encR A rs) (hr : Rings w rs) (hl : rs.length ≤ 1048576) :
    Calls Try.prog 42 #[.slice A rs.length c] w fun e w' => ∃ v, e = .returned (.tuple #[v, .int .i64 (mapC (psOf rs))]) ∧ OwE w' w.heap.size v (obP (psOf rs)) ∧ Ext w w' := by
  by_cases hm : mapB (psOf rs) = true
  · obtain ⟨al, hal⟩ : ∃ al, al = allE (psOf rs) := ⟨_, rfl⟩
    rw [mapC_yes hm, show obP (psOf rs) = outTo al al.length by unfold obP; rw [if_pos hm, hal]]
    have hcall : Calls Try.prog 93 #[.slice A rs.length c] w fun e w' => e = .returned (.bool true) ∧ Ext w w' := as_bool (s_IsMap _ _ rs _ h hr hl) hm
    have HC := Lib.hid hcall
    have HM := Lib.hid (mapB_iff.1 hm)
    have HAL := Lib.hid hal
    clear hm hcall hal
    go_enter Try.func42, Try.ntmps42
    (go_wp2_with fail; refine (HC.out).mono ?_; rintro e w1 ⟨rfl, hx1⟩; obtain ⟨hc1, hf1⟩ := hx1.rules; have hs1 := hx1.size; (try simp at hs1))
    have HV0 := Lib.hid (World.ownsRow_made (base := w1.heap.size) (e := 58) (size := 4) w1 #[] 0 (Nat.le_refl _) (Nat.zero_le _) rfl : OwE _ w1.heap.size _ (alTo (psOf rs) 0))
    clear hc1 hf1
    go_wp2
    go_loopw [4, 5] (fun v i wr => ∃ k : Nat, k ≤ rs.length ∧ i = .int .i64 k ∧ Hid (OwE wr w1.heap.size v (alTo (psOf rs) k)) ∧ Ext w1 wr) (fun _ i _ => rs.length - (intOf i).toNat)
    case atStart => exact ⟨0, by omega, rfl, HV0, by (repeat (first | with_reducible exact Ext.refl _ | with_reducible assumption | ((with_reducible apply Src.ext); with_reducible assumption) | with_reducible refine Ext.alloc ?_ _ | with_reducible refine Ext.drew ?_ | with_reducible refine Ext.drewN ?_ _ | ((with_reducible refine Ext.setCell' ?_ ?_ _); solve | omega | simp | (simp; omega)) | (with_reducible refine Ext.trans ?_ (by with_reducible assumption))))⟩
    case round =>
      obtain ⟨k, hk, rfl, HV, hxr⟩ := hrel
      have hsr := hxr.size
      have h6 := HM.out.1
      rw [psOf_len] at h6
      have hal1 := alTo_len HM.out k (by rw [psOf_len]; exact hk)
      have HAK := Lib.hid hal1
      clear hal1
      by_cases hlt : k < rs.length
      · obtain ⟨b, off, rfl, hb, hcell⟩ := ((h.ext hx1).ext hxr).rg hlt
        have hrk := ((hr.ext hx1).ext hxr) _ (rg_mem hlt)
        have hring := HM.out.2.1 k (by rw [psOf_len]; exact hlt)
        rw [psOf_at hlt] at hring
        have hsu := alTo_succ (L := psOf rs) (k := k) (by rw [psOf_len]; exact hlt)
        rw [psOf_at hlt] at hsu
        obtain ⟨r, hre⟩ : ∃ r, r = rs.getD k rgD := ⟨_, rfl⟩
        rw [← hre] at hcell hrk hring hsu
        clear hre
        obtain ⟨h0, hl12, ho⟩ := ring_facts hring
        have hen : (edL (normS r.2.2)).length = r.2.2.length := by rw [edL_len, normS_len]
        skip
        have HE := Lib.hid hen
        have HSU := Lib.hid hsu
        have HO := Lib.hid ho
        have HK := Lib.hid hrk
        clear ho hring hrk hen hsu
        go_wp2_with fail
        refine (s_l17Edges _ _ r.2.2 _ HK.out.1 h0 (by omega) HO.out).mono ?_
        rintro e w2 ⟨v2, rfl, hO2, hx2⟩
        have hs2 := hx2.size
        obtain ⟨A2, c2, rfl, hS2, _, _, _⟩ := hO2.sl len_encE
        clear hO2
        go_wp2_with (at_builtin; refine wpList_append_sl elE len_encE one_encE rfl _ _ rfl rfl (HV.out.ext hx2) (xs := edL (normS r.2.2)) rfl hS2 (by rw [HE.out]; have := HAK.out; unfold maxLen; omega) (by rw [HE.out]; have := HAK.out; omega) (by omega) ?_)
        intro v' w5 hown hgrow _
        rw [← HSU.out] at hown
        have HV2 := Lib.hid hown
        have hx5 : Ext w1 w5 := (hxr.trans hx2).grown hgrow (fun q hq => (HV.out.row q hq).1)
        clear hown hgrow
        go_wp2
        go_roundw
        case rel => exact ⟨k + 1, by omega, by go_num, HV2, hx5⟩
        case measure => simp [intOf]; omega
      · obtain rfl : k = rs.length := by omega
        have hall : alTo (psOf rs) rs.length = al := by rw [HAL.out]; unfold allE; rw [psOf_len]
        have hO := HV.out
        rw [hall] at hO
        obtain ⟨A4, c4, hv, hS4, _, _, hA4⟩ := hO.sl len_encE
        subst hv
        have hal2 : al.length ≤ 72 := by have := HAK.out; rw [hall] at this; omega
        clear hO
        obtain ⟨W2, hW2⟩ : ∃ W : World, W = wr := ⟨_, rfl⟩
        rw [← hW2] at hS4 hxr hsr
        have HW2 := Lib.hid hW2
        have hX2 : Ext w W2 := hx1.trans hxr
        obtain ⟨n, hn⟩ : ∃ n, n = al.length := ⟨_, rfl⟩
        rw [← hn] at hal2 ⊢
        have HN := Lib.hid hn
        have HO0 : ∀ W, W2.heap.size ≤ W.heap.size → OwE W W2.heap.size (.slice none 0 0) (outTo al 0) := fun W _ => Own.nil _ _
        clear hW2 hn hall
        have HO1 := Lib.hid (World.ownsRow_made (base := W2.heap.size) (e := 58) (size := 4) wr #[] 0 (by rw [HW2.out]; exact Nat.le_refl _) (Nat.zero_le _) rfl : OwE _ W2.heap.size _ (outTo al 0))
        clear HO0
        go_wp2
        go_loopw [6, 7] (fun v i wr => ∃ k : Nat, k ≤ n ∧ i = .int .i64 k ∧ Hid (OwE wr W2.heap.size v (outTo al k)) ∧ Ext W2 wr) (fun _ i _ => n - (intOf i).toNat)
        case atStart => exact ⟨0, by omega, rfl, HO1, by rw [HW2.out]; (repeat (first | with_reducible exact Ext.refl _ | with_reducible assumption | ((with_reducible apply Src.ext); with_reducible assumption) | with_reducible refine Ext.alloc ?_ _ | with_reducible refine Ext.drew ?_ | with_reducible refine Ext.drewN ?_ _ | ((with_reducible refine Ext.setCell' ?_ ?_ _); solve | omega | simp | (simp; omega)) | (with_reducible refine Ext.trans ?_ (by with_reducible assumption))))⟩
        case round =>
          obtain ⟨k, hk, rfl, HU, hx3⟩ := hrel
          have hs3 := hx3.size
          have hol := outTo_len al k
          have HOL := Lib.hid hol
          clear hol
          by_cases hlt : k < n
          · have hkn : k < al.length := by rw [← HN.out]; exact hlt
            obtain ⟨b, off, a1, a2, a3, a4, rfl, hb, he, d0, d1, d2, d3⟩ := (hS4.ext hx3).ed hkn
            have HE := Lib.hid he
            clear he
            by_cases hh : hasE al a3 a4 a1 a2 = true
            · have hno := outTo_no hkn (show lone al (al.getD k edD) = false by rw [show al.getD k edD = ((a1, a2), (a3, a4)) from HE.out]; simp [lone, hh])
              have HNO := Lib.hid hno
              have hcall : ∀ W, SlAt W 4 encE (some ⟨b, off, none⟩) al → Calls Try.prog 80 #[.slice (some ⟨b, off, none⟩) n c4, .agg #[.int .i64 a3, .int .i64 a4, .int .i64 a1, .int .i64 a2]] W fun e w' => e = .returned (.bool true) ∧ Ext W w' := fun W h => as_bool (s_l17Has _ _ _ al _ _ _ _ _ h HN.out (by omega)) hh
              have HCC := Lib.hid hcall
              clear hh hno hcall hkn
              go_wp2
              (refine wp_region_ext (by kernel_rfl) (by kernel_rfl) ?_; (repeat (go_big_quiet_step ((go_at_call 80; exact Calls_ext (HCC.out _ ((hS4.ext hx3).ext (ExtOf.ext _))))))); refine wpQuiet_nil ?_; intro wq hxwq; obtain ⟨hcwq, hfwq⟩ := hxwq.rules; have hswq := hxwq.size; (try simp at hswq))
              go_wp2
              go_roundw
              case rel => exact ⟨k + 1, by omega, by go_num, by rw [HNO.out]; exact Lib.hid (HU.out.ext (by (repeat (first | with_reducible exact Ext.refl _ | with_reducible assumption | ((with_reducible apply Src.ext); with_reducible assumption) | with_reducible refine Ext.alloc ?_ _ | with_reducible refine Ext.drew ?_ | with_reducible refine Ext.drewN ?_ _ | ((with_reducible refine Ext.setCell' ?_ ?_ _); solve | omega | simp | (simp; omega)) | (with_reducible refine Ext.trans ?_ (by with_reducible assumption)))))), by (repeat (first | with_reducible exact Ext.refl _ | with_reducible assumption | ((with_reducible apply Src.ext); with_reducible assumption) | with_reducible refine Ext.alloc ?_ _ | with_reducible refine Ext.drew ?_ | with_reducible refine Ext.drewN ?_ _ | ((with_reducible refine Ext.setCell' ?_ ?_ _); solve | omega | simp | (simp; omega)) | (with_reducible refine Ext.trans ?_ (by with_reducible assumption))))⟩
              case measure => simp [intOf]; omega
            · have hh' : hasE al a3 a4 a1 a2 = false := Bool.eq_false_iff.2 hh
              have hye := outTo_yes hkn (show lone al (al.getD k edD) = true by rw [show al.getD k edD = ((a1, a2), (a3, a4)) from HE.out]; simp [lone, hh'])
              obtain ⟨ek, hek⟩ : ∃ ek, ek = al.getD k edD := ⟨_, rfl⟩
              rw [← hek] at hye
              have HEK : Hid (ek = ((a1, a2), (a3, a4))) := Lib.hid (by rw [hek]; exact HE.out)
              have HYE := Lib.hid hye
              clear hek
              have hcall : ∀ W, SlAt W 4 encE (some ⟨b, off, none⟩) al → Calls Try.prog 80 #[.slice (some ⟨b, off, none⟩) n c4, .agg #[.int .i64 a3, .int .i64 a4, .int .i64 a1, .int .i64 a2]] W fun e w' => e = .returned (.bool false) ∧ Ext W w' := fun W h => as_bool (s_l17Has _ _ _ al _ _ _ _ _ h HN.out (by omega)) hh'
              have HCC := Lib.hid hcall
              clear hh hh' hye hcall hkn
              go_wp2
              (refine wp_region_ext (by kernel_rfl) (by kernel_rfl) ?_; (repeat (go_big_quiet_step ((go_at_call 80; exact Calls_ext (HCC.out _ ((hS4.ext hx3).ext (ExtOf.ext _))))))); refine wpQuiet_nil ?_; intro wq hxwq; obtain ⟨hcwq, hfwq⟩ := hxwq.rules; have hswq := hxwq.size; (try simp at hswq))
              go_wp2_with (at_builtin; refine wpList_append_sl elE len_encE one_encE rfl _ _ rfl rfl (HU.out.ext (by (repeat (first | with_reducible exact Ext.refl _ | with_reducible assumption | ((with_reducible apply Src.ext); with_reducible assumption) | with_reducible refine Ext.alloc ?_ _ | with_reducible refine Ext.drew ?_ | with_reducible refine Ext.drewN ?_ _ | ((with_reducible refine Ext.setCell' ?_ ?_ _); solve | omega | simp | (simp; omega)) | (with_reducible refine Ext.trans ?_ (by with_reducible assumption)))))) (xs := [ek]) rfl (blk_e1 (by (repeat (first | with_reducible assumption | ((with_reducible apply Blk.new); solve | simp | rfl) | with_reducible apply Blk.drew | with_reducible apply Blk.drewN | ((with_reducible apply Blk.far'); solve | omega | simp | (simp; omega)) | with_reducible apply Blk.set_ | with_reducible apply Blk.alloc | ((with_reducible apply Blk.ext'); with_reducible assumption) | ((with_reducible apply Blk.but'); (with_reducible assumption); solve | omega | (simp; omega))))) HEK.out) (by have := HOL.out; simp; unfold maxLen; omega) (by have := HOL.out; simp; omega) (by first | omega | (simp; omega)) ?_)
              intro v' w8 hown hgrow _
              rw [← HYE.out] at hown
              have HV2 := Lib.hid hown
              have hx8 : Ext W2 w8 := by
                refine Ext.grown ?_ hgrow (fun q hq => (HU.out.row q hq).1)
                (repeat (first | with_reducible exact Ext.refl _ | with_reducible assumption | ((with_reducible apply Src.ext); with_reducible assumption) | with_reducible refine Ext.alloc ?_ _ | with_reducible refine Ext.drew ?_ | with_reducible refine Ext.drewN ?_ _ | ((with_reducible refine Ext.setCell' ?_ ?_ _); solve | omega | simp | (simp; omega)) | (with_reducible refine Ext.trans ?_ (by with_reducible assumption))))
              clear hown hgrow
              go_wp2
              go_roundw
              case rel => exact ⟨k + 1, by omega, by go_num, HV2, hx8⟩
              case measure => simp [intOf]; omega
          · obtain rfl : k = n := by omega
            go_wp2
            go_ret2
            exact ⟨_, rfl, by have hv := HU.out; rw [HN.out] at hv; exact hv.less hX2.size, hX2.trans hx3⟩
  · have hm' : mapB (psOf rs) = false := Bool.eq_false_iff.2 hm
    rw [mapC_no hm', show obP (psOf rs) = [] by unfold obP; rw [if_neg hm]]
    have hcall : Calls Try.prog 93 #[.slice A rs.length c] w fun e w' => e = .returned (.bool false) ∧ Ext w w' := as_bool (s_IsMap _ _ rs _ h hr hl) hm'
    have HC := Lib.hid hcall
    clear hm hm' hcall
    go_enter Try.func42, Try.ntmps42
    (go_wp2_with fail; refine (HC.out).mono ?_; rintro e w1 ⟨rfl, hx1⟩; obtain ⟨hc1, hf1⟩ := hx1.rules; have hs1 := hx1.size; (try simp at hs1))
    go_wp2
    go_ret2
    exact ⟨_, rfl, Own.nil _ _, by (repeat (first | with_reducible exact Ext.refl _ | with_reducible assumption | ((with_reducible apply Src.ext); with_reducible assumption) | with_reducible refine Ext.alloc ?_ _ | with_reducible refine Ext.drew ?_ | with_reducible refine Ext.drewN ?_ _ | ((with_reducible refine Ext.setCell' ?_ ?_ _); solve | omega | simp | (simp; omega)) | (with_reducible refine Ext.trans ?_ (by with_reducible assumption))))⟩

end Go.Proofs.Yteppjdoggjcdoaa
