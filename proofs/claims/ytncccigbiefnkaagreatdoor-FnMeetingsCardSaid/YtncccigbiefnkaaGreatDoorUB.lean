/- YearsInside as the specification tells it. -/
import Derived.Test.YtncccigbiefnkaaGreatDoorU1
import Derived.Test.YtncccigbiefnkaaGreatDoorS1
import Derived.Deep.RegionHeld3
import Derived.Deep.DeepCutAuto
import Derived.RegionTactic
import Derived.BigRegion
import Derived.WalkLawsBesides
import Derived.WalkSpells
import Derived.Lib.MinMax
import Derived.Outline
namespace Go.Proofs.YtncccigbiefnkaaGreatDoor
open Go.RowKit
attribute [local go_sem] ExtOf.cell ExtOf.frozen

/-- the code of YearsInside -/
noncomputable def yiC (L : List Lk) (a b : List UInt8) : Int := if lksB L = true ∧ smL a 1 16 = true ∧ smL b 1 16 = true then (if a = b then 5 else if 12 < (yrS L a b).length then 3 else 0) else 1
/-- the years of YearsInside -/
noncomputable def yiV (L : List Lk) (a b : List UInt8) : List Sn := if yiC L a b = 0 then yrS L a b else []
theorem yiC_bad {L : List Lk} {a b : List UInt8} (h : ¬ (lksB L = true ∧ smL a 1 16 = true ∧ smL b 1 16 = true)) : yiC L a b = 1 := if_neg h
theorem yiC_same {L : List Lk} {a b : List UInt8} (h : lksB L = true ∧ smL a 1 16 = true ∧ smL b 1 16 = true) (e : a = b) : yiC L a b = 5 := by unfold yiC; rw [if_pos h, if_pos e]
theorem yiC_long {L : List Lk} {a b : List UInt8} (h : lksB L = true ∧ smL a 1 16 = true ∧ smL b 1 16 = true) (e : a ≠ b) (hl : 12 < (yrS L a b).length) : yiC L a b = 3 := by unfold yiC; rw [if_pos h, if_neg e, if_pos hl]
theorem yiC_ok {L : List Lk} {a b : List UInt8} (h : lksB L = true ∧ smL a 1 16 = true ∧ smL b 1 16 = true) (e : a ≠ b) (hl : ¬ 12 < (yrS L a b).length) : yiC L a b = 0 := by unfold yiC; rw [if_pos h, if_neg e, if_neg hl]
theorem yiV_no {L : List Lk} {a b : List UInt8} (h : yiC L a b ≠ 0) : yiV L a b = [] := if_neg h
theorem yiV_ok {L : List Lk} {a b : List UInt8} (h : yiC L a b = 0) : yiV L a b = yrS L a b := if_pos h
theorem lkC_one {L : List Lk} {a : List UInt8} (h : ¬ (lksB L = true ∧ smL a 1 16 = true)) : lkC L [a] 0 = 1 := by
  cases h1 : lksB L with
  | false => exact lkC_links h1
  | true => exact lkC_words (by rw [show ([a].all fun x => smL x 1 16) = smL a 1 16 by simp]; cases h2 : smL a 1 16 with
    | false => rfl
    | true => exact absurd ⟨h1, h2⟩ h)
theorem lkC_nil {L : List Lk} {a : List UInt8} (h : lksB L = true) (h2 : smL a 1 16 = true) : lkC L [a] 0 = 0 := lkC_ok h (by simp [h2]) (by decide)

section
variable (A : Option Addr) (n c : Nat) (L : List Lk) (x z : List UInt8) (w : World)
set_option maxRecDepth 20000 in
set_option maxHeartbeats 12800000 in
theorem s_YearsInside (h : SlAt w 4 encK A L) (hn : n = L.length) (hl : L.length ≤ 1048576) (hg : Links L) (hx : x.length ≤ 1048576) (hz : z.length ≤ 1048576) :
    Calls Tryz.prog 10 #[.slice A n c, .string (tx x), .string (tx z)] w fun e w' => ∃ v, e = .returned (.tuple #[v, .int .i64 (yiC L x z)]) ∧ OwSn w' w.heap.size v (yiV L x z) ∧ Ext w w' := by
  have HL := Lib.hid (fun W hW => s_l12Code A n c L x 0 W hW hn hl hg hx)
  have HW := Lib.hid (fun W => by have := s_IsWord (tx z) W (by rw [tx_size]; omega); rw [smB_tx] at this; exact this)
  have HS := Lib.hid h
  have htx := tx_toL x
  have htz := tx_toL z
  by_cases hok : lksB L = true ∧ smL x 1 16 = true
  · have hcd := lkC_nil hok.1 hok.2
    cases hwz : smL z 1 16 with
    | false =>
      have hC := yiC_bad (L := L) (a := x) (b := z) (by rintro ⟨_, _, e⟩; rw [hwz] at e; cases e)
      have hV := yiV_no (L := L) (a := x) (b := z) (by rw [hC]; decide)
      rw [hC, hV]
      rw [hcd] at HL
      rw [hwz] at HW
      generalize tx x = sx at *
      generalize tx z = sz at *
      clear hC hV hcd hwz htx htz h hn hg hok hx hz
      go_enter Tryz.func10, Tryz.ntmps10
      (go_wp2_with fail; refine (HL.out _ HS.out).mono ?_; rintro e w1 ⟨rfl, hx1⟩; obtain ⟨hc1, hf1⟩ := hx1.rules; have hs1 := hx1.size; (try simp at hs1))
      (go_wp2_with fail; refine (HW.out _).mono ?_; rintro e w2 ⟨rfl, hx2⟩; obtain ⟨hc2, hf2⟩ := hx2.rules; have hs2 := hx2.size; (try simp at hs2))
      go_wp2
      go_ret2
      exact ⟨_, rfl, Own.nil _ _, by (repeat (first | with_reducible exact Ext.refl _ | with_reducible assumption | ((with_reducible apply Src.ext); with_reducible assumption) | with_reducible refine Ext.alloc ?_ _ | with_reducible refine Ext.drew ?_ | with_reducible refine Ext.drewN ?_ _ | ((with_reducible refine Ext.setCell' ?_ ?_ _); solve | omega | simp | (simp; omega)) | (with_reducible refine Ext.trans ?_ (by with_reducible assumption))))⟩
    | true =>
      by_cases hxz : x = z
      · have hC := yiC_same ⟨hok.1, hok.2, hwz⟩ hxz
        have hV := yiV_no (L := L) (a := x) (b := z) (by rw [hC]; decide)
        rw [hC, hV]
        rw [hcd] at HL
        rw [hwz] at HW
        have heq : ((tx x).toList == (tx z).toList) = true := by rw [htx, htz, hxz]; simp
        generalize tx x = sx at *
        generalize tx z = sz at *
        clear hC hV hcd hwz htx htz h hn hg hok hx hz hxz
        go_enter Tryz.func10, Tryz.ntmps10
        (go_wp2_with fail; refine (HL.out _ HS.out).mono ?_; rintro e w1 ⟨rfl, hx1⟩; obtain ⟨hc1, hf1⟩ := hx1.rules; have hs1 := hx1.size; (try simp at hs1))
        (go_wp2_with fail; refine (HW.out _).mono ?_; rintro e w2 ⟨rfl, hx2⟩; obtain ⟨hc2, hf2⟩ := hx2.rules; have hs2 := hx2.size; (try simp at hs2))
        go_wp2
        go_ret2
        exact ⟨_, rfl, Own.nil _ _, by (repeat (first | with_reducible exact Ext.refl _ | with_reducible assumption | ((with_reducible apply Src.ext); with_reducible assumption) | with_reducible refine Ext.alloc ?_ _ | with_reducible refine Ext.drew ?_ | with_reducible refine Ext.drewN ?_ _ | ((with_reducible refine Ext.setCell' ?_ ?_ _); solve | omega | simp | (simp; omega)) | (with_reducible refine Ext.trans ?_ (by with_reducible assumption))))⟩
      · have hfull : lksB L = true ∧ smL x 1 16 = true ∧ smL z 1 16 = true := ⟨hok.1, hok.2, hwz⟩
        have h20 : L.length ≤ 20 := (lksB_iff.1 hok.1).1.2
        have hT : Told L := LkP.told (lksB_iff.1 hok.1).1.1
        have hflat := LksP.way (lksB_iff.1 hok.1) x
        have HWY := Lib.hid (fun W y hW => s_l12Way A n c L x y W hW hn (by omega) hT (smL_ne hok.2))
        have HFD := Lib.hid (fun W A1 c1 (ws : List (List UInt8)) hW (hlw : ws.length ≤ 2097152) => s_l03Find A1 ws.length c1 ws z W hW rfl hlw)
        have hwl : ∀ y, (wayU L x y).1.length ≤ 2097152 := fun y => by
          obtain ⟨_, _, hle⟩ := wayU_ne L x y
          omega
        have HYK := Lib.hid (fun k => yrK_len L x z k)
        have hC3 := yiC_long hfull hxz
        have hC0 := yiC_ok hfull hxz
        have hV0 : ¬ 12 < (yrS L x z).length → yiV L x z = yrS L x z := fun e => yiV_ok (hC0 e)
        have hV3 : 12 < (yrS L x z).length → yiV L x z = [] := fun e => yiV_no (by rw [hC3 e]; decide)
        obtain ⟨cc, hcc⟩ : ∃ cc, cc = yiC L x z := ⟨_, rfl⟩
        obtain ⟨vv, hvv⟩ : ∃ vv, vv = yiV L x z := ⟨_, rfl⟩
        rw [← hcc] at hC3 hC0 ⊢
        rw [← hvv] at hV0 hV3 ⊢
        have HC3 := Lib.hid hC3
        have HC0 := Lib.hid hC0
        have HV0 := Lib.hid hV0
        have HV3 := Lib.hid hV3
        have HF := Lib.hid hflat
        have HWL := Lib.hid hwl
        rw [hcd] at HL
        rw [hwz] at HW
        have heq : ((tx x).toList == (tx z).toList) = false := by
          rw [htx, htz]
          simpa using hxz
        generalize tx x = sx at *
        generalize tx z = sz at *
        clear hcc hvv hC3 hC0 hV0 hV3 hflat hwl hT hfull hcd hwz htx htz h hn hg hok hx hz hxz
        go_enter Tryz.func10, Tryz.ntmps10
        (go_wp2_with fail; refine (HL.out _ HS.out).mono ?_; rintro e w1 ⟨rfl, hx1⟩; obtain ⟨hc1, hf1⟩ := hx1.rules; have hs1 := hx1.size; (try simp at hs1))
        (go_wp2_with fail; refine (HW.out _).mono ?_; rintro e w2 ⟨rfl, hx2⟩; obtain ⟨hc2, hf2⟩ := hx2.rules; have hs2 := hx2.size; (try simp at hs2))
        go_wp2
        go_loopw [9, 10] (fun v i wr => ∃ k : Nat, k ≤ 6001 ∧ i = .int .i64 (-3000 + (k : Int)) ∧ Hid (OwSn wr w.heap.size v (yrK L x z k)) ∧ Ext w wr) (fun _ i _ => (3001 - intOf i).toNat)
        case atStart => exact ⟨0, by omega, rfl, Lib.hid (Own.of_blk (xs := []) (by (repeat (first | with_reducible assumption | ((with_reducible apply Blk.new); solve | simp | rfl) | with_reducible apply Blk.drew | with_reducible apply Blk.drewN | ((with_reducible apply Blk.far'); solve | omega | simp | (simp; omega)) | with_reducible apply Blk.set_ | with_reducible apply Blk.alloc | ((with_reducible apply Blk.ext'); with_reducible assumption) | ((with_reducible apply Blk.but'); (with_reducible assumption); solve | omega | (simp; omega))))) len_encSn rfl (by (try simp); omega) (Nat.zero_le _)), by (repeat (first | with_reducible exact Ext.refl _ | with_reducible assumption | ((with_reducible apply Src.ext); with_reducible assumption) | with_reducible refine Ext.alloc ?_ _ | with_reducible refine Ext.drew ?_ | with_reducible refine Ext.drewN ?_ _ | ((with_reducible refine Ext.setCell' ?_ ?_ _); solve | omega | simp | (simp; omega)) | (with_reducible refine Ext.trans ?_ (by with_reducible assumption))))⟩
        case round =>
          obtain ⟨k, hk, rfl, HV, hxr⟩ := hrel
          obtain ⟨w5, rfl⟩ : ∃ x, x = wr := ⟨wr, rfl⟩
          have hsr := hxr.size
          by_cases hk6 : k = 6001
          · subst hk6
            have HY6 : Hid (yrK L x z 6001 = yrS L x z) := Lib.hid rfl
            rw [HY6.out] at HV
            have HV5 := Lib.hid HV.out
            obtain ⟨A1, c1, rfl, hS1, _⟩ := HV.out.sl len_encSn
            by_cases h12 : 12 < (yrS L x z).length
            · have h12' : decide (((yrS L x z).length : Int) > 12) = true := decide_eq_true (by omega)
              have HR3 := Lib.hid (HV3.out h12)
              have HR4 := Lib.hid (HC3.out h12)
              obtain ⟨un, hun⟩ : ∃ un, un = (yrS L x z).length := ⟨_, rfl⟩
              rw [← hun] at h12 h12' ⊢
              clear hS1 hun HV HV5
              go_wp2
              go_ret2
              exact ⟨_, by rw [HR4.out]; rfl, by rw [HR3.out]; exact Own.nil _ _, by (repeat (first | with_reducible exact Ext.refl _ | with_reducible assumption | ((with_reducible apply Src.ext); with_reducible assumption) | with_reducible refine Ext.alloc ?_ _ | with_reducible refine Ext.drew ?_ | with_reducible refine Ext.drewN ?_ _ | ((with_reducible refine Ext.setCell' ?_ ?_ _); solve | omega | simp | (simp; omega)) | (with_reducible refine Ext.trans ?_ (by with_reducible assumption))))⟩
            · have h12' : decide (((yrS L x z).length : Int) > 12) = false := decide_eq_false (by omega)
              have HR3 := Lib.hid (HV0.out h12)
              have HR4 := Lib.hid (HC0.out h12)
              obtain ⟨un, hun⟩ : ∃ un, un = (yrS L x z).length := ⟨_, rfl⟩
              rw [← hun] at h12 h12' HV5 ⊢
              clear hS1 hun HV
              go_wp2
              go_ret2
              exact ⟨_, by rw [HR4.out]; rfl, by rw [HR3.out]; exact HV5.out.ext (by (repeat (first | with_reducible exact Ext.refl _ | with_reducible assumption | ((with_reducible apply Src.ext); with_reducible assumption) | with_reducible refine Ext.alloc ?_ _ | with_reducible refine Ext.drew ?_ | with_reducible refine Ext.drewN ?_ _ | ((with_reducible refine Ext.setCell' ?_ ?_ _); solve | omega | simp | (simp; omega)) | (with_reducible refine Ext.trans ?_ (by with_reducible assumption))))), by (repeat (first | with_reducible exact Ext.refl _ | with_reducible assumption | ((with_reducible apply Src.ext); with_reducible assumption) | with_reducible refine Ext.alloc ?_ _ | with_reducible refine Ext.drew ?_ | with_reducible refine Ext.drewN ?_ _ | ((with_reducible refine Ext.setCell' ?_ ?_ _); solve | omega | simp | (simp; omega)) | (with_reducible refine Ext.trans ?_ (by with_reducible assumption))))⟩
          · have hk5 : k < 6001 := by omega
            obtain ⟨y, hy⟩ : ∃ y : Int, y = -3000 + (k : Int) := ⟨_, rfl⟩
            have HY := Lib.hid hy
            have hyl : -3000 ≤ y := by omega
            have hyh : y ≤ 3000 := by omega
            have hyd : decide (y ≤ 3000) = true := decide_eq_true hyh
            have hTL := HYK.out k
            obtain ⟨T, hT⟩ : ∃ T, T = yrK L x z k := ⟨_, rfl⟩
            have HTE := Lib.hid hT
            rw [← hT] at HV hTL
            rw [← hy]
            obtain ⟨r, hr⟩ : ∃ r, r = fdI (wayU L x y).1 z := ⟨_, rfl⟩
            have HFY := Lib.hid (fun W A1 c1 hW => HFD.out W A1 c1 (wayU L x y).1 hW (HWL.out y))
            rw [← hr] at HFY
            clear hT hy
            by_cases hm : z ∈ (wayU L x y).1
            · have hr0 : 0 ≤ r := by rw [hr]; exact fdI_iff.2 hm
              have hdr : decide (r < 0) = false := decide_eq_false (by omega)
              have HI : Hid (insY L x z (-3000 + (k : Int)) = true) := Lib.hid (by rw [← HY.out]; unfold insY; exact decide_eq_true hm)
              clear hr hm
              rcases List.eq_nil_or_concat T with rfl | ⟨o, s, rfl⟩
              · obtain ⟨A5, c5, hv5, _⟩ := HV.out.sl len_encSn
                simp only [List.length_nil] at hv5
                subst hv5
                go_wp2_with fail
                refine (HWY.out _ _ (HS.out.ext (by (repeat (first | with_reducible exact Ext.refl _ | with_reducible assumption | ((with_reducible apply Src.ext); with_reducible assumption) | with_reducible refine Ext.alloc ?_ _ | with_reducible refine Ext.drew ?_ | with_reducible refine Ext.drewN ?_ _ | ((with_reducible refine Ext.setCell' ?_ ?_ _); solve | omega | simp | (simp; omega)) | (with_reducible refine Ext.trans ?_ (by with_reducible assumption))))))).mono ?_
                rintro e w6 ⟨hr6, hx6⟩
                rcases hr6 with ⟨hq, _⟩ | ⟨hq, v6, rfl, hO6⟩
                · rw [HF.out] at hq; cases hq
                obtain ⟨A6, c6, rfl, hS6, hq6⟩ := hO6.sl len_encS
                have HS6 := Lib.hid hS6
                have hs6 := hx6.size
                clear hO6 hS6 hq hq6
                go_wp2_with fail
                refine (HFY.out _ _ _ (HS6.out.ext (by (repeat (first | with_reducible exact Ext.refl _ | with_reducible assumption | ((with_reducible apply Src.ext); with_reducible assumption) | with_reducible refine Ext.alloc ?_ _ | with_reducible refine Ext.drew ?_ | with_reducible refine Ext.drewN ?_ _ | ((with_reducible refine Ext.setCell' ?_ ?_ _); solve | omega | simp | (simp; omega)) | (with_reducible refine Ext.trans ?_ (by with_reducible assumption))))))).mono ?_
                rintro e w7 ⟨rfl, rfl⟩
                go_wp2_with (at_builtin; refine wpList_append_sl elSn len_encSn one_encSn rfl _ _ rfl rfl (HV.out.ext (by (repeat (first | with_reducible exact Ext.refl _ | with_reducible assumption | ((with_reducible apply Src.ext); with_reducible assumption) | with_reducible refine Ext.alloc ?_ _ | with_reducible refine Ext.drew ?_ | with_reducible refine Ext.drewN ?_ _ | ((with_reducible refine Ext.setCell' ?_ ?_ _); solve | omega | simp | (simp; omega)) | (with_reducible refine Ext.trans ?_ (by with_reducible assumption)))))) (xs := [(y, y)]) rfl (blk_sn1 (by (repeat (first | with_reducible assumption | ((with_reducible apply Blk.new); solve | simp | rfl) | with_reducible apply Blk.drew | with_reducible apply Blk.drewN | ((with_reducible apply Blk.far'); solve | omega | simp | (simp; omega)) | with_reducible apply Blk.set_ | with_reducible apply Blk.alloc | ((with_reducible apply Blk.ext'); with_reducible assumption) | ((with_reducible apply Blk.but'); (with_reducible assumption); solve | omega | (simp; omega))))) rfl) (by simp only [List.length_cons, List.length_nil]; unfold maxLen; omega) (by simp only [List.length_cons, List.length_nil]; omega) (by first | omega | (simp; omega)) ?_)
                intro v' w8 hown hgrow _
                have HV2 := Lib.hid hown
                have hx8 : Ext w w8 := by
                  refine Ext.grown ?_ hgrow (fun q hq => (HV.out.row q hq).1)
                  (repeat (first | with_reducible exact Ext.refl _ | with_reducible assumption | ((with_reducible apply Src.ext); with_reducible assumption) | with_reducible refine Ext.alloc ?_ _ | with_reducible refine Ext.drew ?_ | with_reducible refine Ext.drewN ?_ _ | ((with_reducible refine Ext.setCell' ?_ ?_ _); solve | omega | simp | (simp; omega)) | (with_reducible refine Ext.trans ?_ (by with_reducible assumption))))
                clear hown hgrow
                go_wp2
                go_roundw
                case rel => exact ⟨k + 1, by omega, by rw [HY.out]; simp; omega, Lib.hid (by rw [yrK_first HI.out HTE.out.symm, ← HY.out]; exact HV2.out), by (repeat (first | with_reducible exact Ext.refl _ | with_reducible assumption | ((with_reducible apply Src.ext); with_reducible assumption) | with_reducible refine Ext.alloc ?_ _ | with_reducible refine Ext.drew ?_ | with_reducible refine Ext.drewN ?_ _ | ((with_reducible refine Ext.setCell' ?_ ?_ _); solve | omega | simp | (simp; omega)) | (with_reducible refine Ext.trans ?_ (by with_reducible assumption))))⟩
                case measure => simp only [intOf]; omega
              · rw [List.concat_eq_append] at *
                obtain ⟨s1, s2⟩ := s
                obtain ⟨g, cap, rfl, hgb, hlt, d1, d2, df⟩ := HV.out.last
                rw [List.length_append, List.length_singleton] at hTL
                obtain ⟨m, hm⟩ : ∃ m, m = o.length := ⟨_, rfl⟩
                have HM := Lib.hid hm
                rw [← hm] at HV hTL d1 d2 df ⊢
                obtain ⟨ln, hln⟩ : ∃ ln, ln = m + 1 := ⟨_, rfl⟩
                have HLN := Lib.hid hln
                rw [← hln] at HV hTL ⊢
                have hw : IntKind.i64.wrap ((ln : Int) - 1) = (m : Int) := by rw [IntWalk.i64_in _ (by omega)]; omega
                have hw2 : IntKind.i64.wrap (y - 1) = y - 1 := IntWalk.i64_in _ (by omega)
                have hmlt : m < ln := by omega
                have hpos : decide ((ln : Int) > 0) = true := decide_eq_true (by omega)
                have hol : o.length ≤ 6001 := by omega
                clear hm hln d1 d2 df
                by_cases hs : s2 = y - 1
                · subst hs
                  have HG : Hid (∀ W, Ext w5 W → OwSn (W.setCell ⟨g, m * 2 + 1, none⟩ (.int .i64 y)) w.heap.size (.slice (some ⟨g, 0, none⟩) ln cap) (o ++ [(s1, y)]) ∧ Ext w (W.setCell ⟨g, m * 2 + 1, none⟩ (.int .i64 y))) := Lib.hid (fun W hW => by
                    have h1 := HV.out.ext hW
                    rw [HLN.out, HM.out] at h1 ⊢
                    obtain ⟨a, b⟩ := OwSn.grow h1 y
                    exact ⟨a, Ext.grown (hxr.trans hW) b (fun q hq => by cases hq; exact hgb)⟩)
                  go_wp2_with fail
                  refine (HWY.out _ _ (HS.out.ext (by (repeat (first | with_reducible exact Ext.refl _ | with_reducible assumption | ((with_reducible apply Src.ext); with_reducible assumption) | with_reducible refine Ext.alloc ?_ _ | with_reducible refine Ext.drew ?_ | with_reducible refine Ext.drewN ?_ _ | ((with_reducible refine Ext.setCell' ?_ ?_ _); solve | omega | simp | (simp; omega)) | (with_reducible refine Ext.trans ?_ (by with_reducible assumption))))))).mono ?_
                  rintro e w6 ⟨hr6, hx6⟩
                  rcases hr6 with ⟨hq, _⟩ | ⟨hq, v6, rfl, hO6⟩
                  · rw [HF.out] at hq; cases hq
                  obtain ⟨A6, c6, rfl, hS6, hq6⟩ := hO6.sl len_encS
                  have HS6 := Lib.hid hS6
                  have hs6 := hx6.size
                  obtain ⟨q0, q5, q1, q2, q3, q4⟩ := OwSn.at_ (HV.out.ext hx6)
                  clear q0 q5
                  rw [← HM.out] at q2 q3 q4
                  clear hO6 hS6 hq hq6
                  go_wp2_with fail
                  refine (HFY.out _ _ _ (HS6.out.ext (by (repeat (first | with_reducible exact Ext.refl _ | with_reducible assumption | ((with_reducible apply Src.ext); with_reducible assumption) | with_reducible refine Ext.alloc ?_ _ | with_reducible refine Ext.drew ?_ | with_reducible refine Ext.drewN ?_ _ | ((with_reducible refine Ext.setCell' ?_ ?_ _); solve | omega | simp | (simp; omega)) | (with_reducible refine Ext.trans ?_ (by with_reducible assumption))))))).mono ?_
                  rintro e w7 ⟨rfl, rfl⟩
                  go_wp2
                  go_roundw
                  case rel => exact ⟨k + 1, by omega, by rw [HY.out]; simp; omega, Lib.hid (by rw [yrK_on HI.out HTE.out.symm (by rw [← HY.out]), ← HY.out]; exact (HG.out _ (by (repeat (first | with_reducible exact Ext.refl _ | with_reducible assumption | ((with_reducible apply Src.ext); with_reducible assumption) | with_reducible refine Ext.alloc ?_ _ | with_reducible refine Ext.drew ?_ | with_reducible refine Ext.drewN ?_ _ | ((with_reducible refine Ext.setCell' ?_ ?_ _); solve | omega | simp | (simp; omega)) | (with_reducible refine Ext.trans ?_ (by with_reducible assumption)))))).1), (HG.out _ (by (repeat (first | with_reducible exact Ext.refl _ | with_reducible assumption | ((with_reducible apply Src.ext); with_reducible assumption) | with_reducible refine Ext.alloc ?_ _ | with_reducible refine Ext.drew ?_ | with_reducible refine Ext.drewN ?_ _ | ((with_reducible refine Ext.setCell' ?_ ?_ _); solve | omega | simp | (simp; omega)) | (with_reducible refine Ext.trans ?_ (by with_reducible assumption)))))).2⟩
                  case measure => simp only [intOf]; omega
                · go_wp2_with fail
                  refine (HWY.out _ _ (HS.out.ext (by (repeat (first | with_reducible exact Ext.refl _ | with_reducible assumption | ((with_reducible apply Src.ext); with_reducible assumption) | with_reducible refine Ext.alloc ?_ _ | with_reducible refine Ext.drew ?_ | with_reducible refine Ext.drewN ?_ _ | ((with_reducible refine Ext.setCell' ?_ ?_ _); solve | omega | simp | (simp; omega)) | (with_reducible refine Ext.trans ?_ (by with_reducible assumption))))))).mono ?_
                  rintro e w6 ⟨hr6, hx6⟩
                  rcases hr6 with ⟨hq, _⟩ | ⟨hq, v6, rfl, hO6⟩
                  · rw [HF.out] at hq; cases hq
                  obtain ⟨A6, c6, rfl, hS6, hq6⟩ := hO6.sl len_encS
                  have HS6 := Lib.hid hS6
                  have hs6 := hx6.size
                  obtain ⟨q0, q5, q1, q2, q3, q4⟩ := OwSn.at_ (HV.out.ext hx6)
                  clear q0 q5
                  rw [← HM.out] at q2 q3 q4
                  clear hO6 hS6 hq hq6
                  go_wp2_with fail
                  refine (HFY.out _ _ _ (HS6.out.ext (by (repeat (first | with_reducible exact Ext.refl _ | with_reducible assumption | ((with_reducible apply Src.ext); with_reducible assumption) | with_reducible refine Ext.alloc ?_ _ | with_reducible refine Ext.drew ?_ | with_reducible refine Ext.drewN ?_ _ | ((with_reducible refine Ext.setCell' ?_ ?_ _); solve | omega | simp | (simp; omega)) | (with_reducible refine Ext.trans ?_ (by with_reducible assumption))))))).mono ?_
                  rintro e w7 ⟨rfl, rfl⟩
                  go_wp2_with (at_builtin; refine wpList_append_sl elSn len_encSn one_encSn rfl _ _ rfl rfl (HV.out.ext (by (repeat (first | with_reducible exact Ext.refl _ | with_reducible assumption | ((with_reducible apply Src.ext); with_reducible assumption) | with_reducible refine Ext.alloc ?_ _ | with_reducible refine Ext.drew ?_ | with_reducible refine Ext.drewN ?_ _ | ((with_reducible refine Ext.setCell' ?_ ?_ _); solve | omega | simp | (simp; omega)) | (with_reducible refine Ext.trans ?_ (by with_reducible assumption)))))) (xs := [(y, y)]) rfl (blk_sn1 (by (repeat (first | with_reducible assumption | ((with_reducible apply Blk.new); solve | simp | rfl) | with_reducible apply Blk.drew | with_reducible apply Blk.drewN | ((with_reducible apply Blk.far'); solve | omega | simp | (simp; omega)) | with_reducible apply Blk.set_ | with_reducible apply Blk.alloc | ((with_reducible apply Blk.ext'); with_reducible assumption) | ((with_reducible apply Blk.but'); (with_reducible assumption); solve | omega | (simp; omega))))) rfl) (by simp only [List.length_append, List.length_cons, List.length_nil]; unfold maxLen; omega) (by simp only [List.length_append, List.length_cons, List.length_nil]; omega) (by first | omega | (simp; omega)) ?_)
                  intro v' w8 hown hgrow _
                  have HV2 := Lib.hid hown
                  have hx8 : Ext w w8 := by
                    refine Ext.grown ?_ hgrow (fun q hq => (HV.out.row q hq).1)
                    (repeat (first | with_reducible exact Ext.refl _ | with_reducible assumption | ((with_reducible apply Src.ext); with_reducible assumption) | with_reducible refine Ext.alloc ?_ _ | with_reducible refine Ext.drew ?_ | with_reducible refine Ext.drewN ?_ _ | ((with_reducible refine Ext.setCell' ?_ ?_ _); solve | omega | simp | (simp; omega)) | (with_reducible refine Ext.trans ?_ (by with_reducible assumption))))
                  clear hown hgrow
                  go_wp2
                  go_roundw
                  case rel => exact ⟨k + 1, by omega, by rw [HY.out]; simp; omega, Lib.hid (by rw [yrK_new HI.out HTE.out.symm (by rw [← HY.out]; exact hs), ← HTE.out, ← HY.out]; (try rw [List.append_assoc]); exact HV2.out), by (repeat (first | with_reducible exact Ext.refl _ | with_reducible assumption | ((with_reducible apply Src.ext); with_reducible assumption) | with_reducible refine Ext.alloc ?_ _ | with_reducible refine Ext.drew ?_ | with_reducible refine Ext.drewN ?_ _ | ((with_reducible refine Ext.setCell' ?_ ?_ _); solve | omega | simp | (simp; omega)) | (with_reducible refine Ext.trans ?_ (by with_reducible assumption))))⟩
                  case measure => simp only [intOf]; omega
            · have hr0 : r < 0 := by rw [hr]; exact Int.lt_of_not_ge fun e => hm (fdI_iff.1 e)
              have hdr : decide (r < 0) = true := decide_eq_true hr0
              have HI : Hid (insY L x z (-3000 + (k : Int)) = false) := Lib.hid (by rw [← HY.out]; unfold insY; exact decide_eq_false hm)
              clear hr hm
              go_wp2_with fail
              refine (HWY.out _ _ (HS.out.ext (by (repeat (first | with_reducible exact Ext.refl _ | with_reducible assumption | ((with_reducible apply Src.ext); with_reducible assumption) | with_reducible refine Ext.alloc ?_ _ | with_reducible refine Ext.drew ?_ | with_reducible refine Ext.drewN ?_ _ | ((with_reducible refine Ext.setCell' ?_ ?_ _); solve | omega | simp | (simp; omega)) | (with_reducible refine Ext.trans ?_ (by with_reducible assumption))))))).mono ?_
              rintro e w6 ⟨hr6, hx6⟩
              rcases hr6 with ⟨hq, _⟩ | ⟨hq, v6, rfl, hO6⟩
              · rw [HF.out] at hq; cases hq
              obtain ⟨A6, c6, rfl, hS6, hq6⟩ := hO6.sl len_encS
              have HS6 := Lib.hid hS6
              have hs6 := hx6.size
              clear hO6 hS6 hq hq6
              go_wp2_with fail
              refine (HFY.out _ _ _ (HS6.out.ext (by (repeat (first | with_reducible exact Ext.refl _ | with_reducible assumption | ((with_reducible apply Src.ext); with_reducible assumption) | with_reducible refine Ext.alloc ?_ _ | with_reducible refine Ext.drew ?_ | with_reducible refine Ext.drewN ?_ _ | ((with_reducible refine Ext.setCell' ?_ ?_ _); solve | omega | simp | (simp; omega)) | (with_reducible refine Ext.trans ?_ (by with_reducible assumption))))))).mono ?_
              rintro e w7 ⟨rfl, rfl⟩
              go_wp2
              go_roundw
              case rel => exact ⟨k + 1, by omega, by rw [HY.out]; simp; omega, Lib.hid (by rw [yrK_no HI.out, ← HTE.out]; exact HV.out.ext (by (repeat (first | with_reducible exact Ext.refl _ | with_reducible assumption | ((with_reducible apply Src.ext); with_reducible assumption) | with_reducible refine Ext.alloc ?_ _ | with_reducible refine Ext.drew ?_ | with_reducible refine Ext.drewN ?_ _ | ((with_reducible refine Ext.setCell' ?_ ?_ _); solve | omega | simp | (simp; omega)) | (with_reducible refine Ext.trans ?_ (by with_reducible assumption)))))), by (repeat (first | with_reducible exact Ext.refl _ | with_reducible assumption | ((with_reducible apply Src.ext); with_reducible assumption) | with_reducible refine Ext.alloc ?_ _ | with_reducible refine Ext.drew ?_ | with_reducible refine Ext.drewN ?_ _ | ((with_reducible refine Ext.setCell' ?_ ?_ _); solve | omega | simp | (simp; omega)) | (with_reducible refine Ext.trans ?_ (by with_reducible assumption))))⟩
              case measure => simp only [intOf]; omega
  · have hcd := lkC_one hok
    have hC := yiC_bad (L := L) (a := x) (b := z) (by rintro ⟨e1, e2, _⟩; exact hok ⟨e1, e2⟩)
    have hV := yiV_no (L := L) (a := x) (b := z) (by rw [hC]; decide)
    rw [hC, hV]
    rw [hcd] at HL
    cases hwz : smL z 1 16 with
    | false =>
      rw [hwz] at HW
      generalize tx x = sx at *
      generalize tx z = sz at *
      clear hC hV hcd hwz htx htz h hn hg hok hx hz
      go_enter Tryz.func10, Tryz.ntmps10
      (go_wp2_with fail; refine (HL.out _ HS.out).mono ?_; rintro e w1 ⟨rfl, hx1⟩; obtain ⟨hc1, hf1⟩ := hx1.rules; have hs1 := hx1.size; (try simp at hs1))
      (go_wp2_with fail; refine (HW.out _).mono ?_; rintro e w2 ⟨rfl, hx2⟩; obtain ⟨hc2, hf2⟩ := hx2.rules; have hs2 := hx2.size; (try simp at hs2))
      go_wp2
      go_ret2
      exact ⟨_, rfl, Own.nil _ _, by (repeat (first | with_reducible exact Ext.refl _ | with_reducible assumption | ((with_reducible apply Src.ext); with_reducible assumption) | with_reducible refine Ext.alloc ?_ _ | with_reducible refine Ext.drew ?_ | with_reducible refine Ext.drewN ?_ _ | ((with_reducible refine Ext.setCell' ?_ ?_ _); solve | omega | simp | (simp; omega)) | (with_reducible refine Ext.trans ?_ (by with_reducible assumption))))⟩
    | true =>
      rw [hwz] at HW
      generalize tx x = sx at *
      generalize tx z = sz at *
      clear hC hV hcd hwz htx htz h hn hg hok hx hz
      go_enter Tryz.func10, Tryz.ntmps10
      (go_wp2_with fail; refine (HL.out _ HS.out).mono ?_; rintro e w1 ⟨rfl, hx1⟩; obtain ⟨hc1, hf1⟩ := hx1.rules; have hs1 := hx1.size; (try simp at hs1))
      (go_wp2_with fail; refine (HW.out _).mono ?_; rintro e w2 ⟨rfl, hx2⟩; obtain ⟨hc2, hf2⟩ := hx2.rules; have hs2 := hx2.size; (try simp at hs2))
      go_wp2
      go_ret2
      exact ⟨_, rfl, Own.nil _ _, by (repeat (first | with_reducible exact Ext.refl _ | with_reducible assumption | ((with_reducible apply Src.ext); with_reducible assumption) | with_reducible refine Ext.alloc ?_ _ | with_reducible refine Ext.drew ?_ | with_reducible refine Ext.drewN ?_ _ | ((with_reducible refine Ext.setCell' ?_ ?_ _); solve | omega | simp | (simp; omega)) | (with_reducible refine Ext.trans ?_ (by with_reducible assumption))))⟩
end
end Go.Proofs.YtncccigbiefnkaaGreatDoor
