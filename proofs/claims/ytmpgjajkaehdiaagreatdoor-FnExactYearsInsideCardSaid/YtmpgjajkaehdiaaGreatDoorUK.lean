/- YearsInside as the program tells it: the walk. -/
import Derived.Test.YtmpgjajkaehdiaaGreatDoorUJ
namespace Go.Proofs.YtmpgjajkaehdiaaGreatDoor
open Go.RowKit
attribute [local go_sem] ExtOf.cell ExtOf.frozen

theorem lkC_two {L : List Lk} {a b : List UInt8} (h : ¬ (lksB L = true ∧ smL a 1 16 = true ∧ smL b 1 16 = true)) : lkC L [a, b] (-3000) = 1 := by
  cases h1 : lksB L with
  | false => exact lkC_links h1
  | true =>
    refine lkC_words ?_
    cases h2 : ([a, b].all fun x => smL x 1 16) with
    | false => rfl
    | true =>
      simp at h2
      exact absurd ⟨h1, h2.1, h2.2⟩ h
theorem lkC_twoOk {L : List Lk} {a b : List UInt8} (h : lksB L = true ∧ smL a 1 16 = true ∧ smL b 1 16 = true) : lkC L [a, b] (-3000) = 0 := lkC_ok h.1 (by simp [h.2.1, h.2.2]) (by decide)
section
variable (A : Option Addr) (n c : Nat) (L : List Lk) (x z : List UInt8) (w : World)
set_option maxRecDepth 20000 in
set_option maxHeartbeats 12800000 in
theorem i_YearsInside (h : SlAt w 4 encK A L) (hn : n = L.length) (hl : L.length ≤ 1048576) (hcap : n ≤ c) (hg : Links L) (hx : x.length ≤ 1048576) (hz : z.length ≤ 1048576) :
    Calls Tryz.prog 8 #[.slice A n c, .string (tx x), .string (tx z)] w fun e w' => ∃ v, e = .returned (.tuple #[v, .int .i64 (yiC L x z)]) ∧ OwSn w' w.heap.size v (yiV L x z) ∧ Ext w w' := by
  have HL := Lib.hid (fun W g hW (hB : Blk W g 9 #[.string (tx x), .string (tx z)]) => i_linkCode A (some ⟨g, 0, none⟩) n c 2 2 L [x, z] (-3000) W hW hn hl hcap hg (hB.sl rfl len_encS) rfl (by omega) (fun k => by
    match k with
    | 0 => exact hx
    | 1 => exact hz
    | k + 2 => simp))
  have HS := Lib.hid h
  have htx := tx_toL x
  have htz := tx_toL z
  by_cases hok : lksB L = true ∧ smL x 1 16 = true ∧ smL z 1 16 = true
  · rw [lkC_twoOk hok] at HL
    by_cases hxz : x = z
    · have hC := yiC_same hok hxz
      have hV := yiV_no (L := L) (a := x) (b := z) (by rw [hC]; decide)
      rw [hC, hV]
      have heq : ((tx x).toList == (tx z).toList) = true := by rw [htx, htz, hxz]; simp
      generalize tx x = sx at *
      generalize tx z = sz at *
      clear hC hV htx htz h hn hg hok hx hz hxz hcap
      go_enter Tryz.func8, Tryz.ntmps8
      go_wp2_with fail
      refine (HL.out _ _ (HS.out.ext (by (repeat (first | with_reducible exact Ext.refl _ | with_reducible assumption | ((with_reducible apply Src.ext); with_reducible assumption) | with_reducible refine Ext.alloc ?_ _ | with_reducible refine Ext.drew ?_ | with_reducible refine Ext.drewN ?_ _ | ((with_reducible refine Ext.setCell' ?_ ?_ _); solve | omega | simp | (simp; omega)) | (with_reducible refine Ext.trans ?_ (by with_reducible assumption)))))) (by (repeat (first | with_reducible assumption | ((with_reducible apply Blk.new); solve | simp | rfl) | with_reducible apply Blk.drew | with_reducible apply Blk.drewN | ((with_reducible apply Blk.far'); solve | omega | simp | (simp; omega)) | with_reducible apply Blk.set_ | with_reducible apply Blk.alloc | ((with_reducible apply Blk.ext'); with_reducible assumption) | ((with_reducible apply Blk.but'); (with_reducible assumption); solve | omega | (simp; omega)))))).mono ?_
      rintro e w1 ⟨rfl, hx1⟩
      go_wp2
      go_ret2
      exact ⟨_, rfl, Own.nil _ _, by (repeat (first | with_reducible exact Ext.refl _ | with_reducible assumption | ((with_reducible apply Src.ext); with_reducible assumption) | with_reducible refine Ext.alloc ?_ _ | with_reducible refine Ext.drew ?_ | with_reducible refine Ext.drewN ?_ _ | ((with_reducible refine Ext.setCell' ?_ ?_ _); solve | omega | simp | (simp; omega)) | (with_reducible refine Ext.trans ?_ (by with_reducible assumption))))⟩
    · have h20 : L.length ≤ 20 := (lksB_iff.1 hok.1).1.2
      have hY0 := chY_len L
      have HCH := Lib.hid (fun W hW => i_changes A n c L W hW hn (by omega) hok.1)
      have HWU := Lib.hid (fun W y hW => i_wayUp A n c L x y W hW hn (by omega))
      have HCO := Lib.hid (fun W A1 c1 (ws : List (List UInt8)) hW (hlw : ws.length ≤ 1048577) => i_ContainsS A1 ws.length c1 ws z W hW rfl hlw)
      have HWL := Lib.hid (fun y => show (wayU L x y).1.length ≤ 1048577 by
        obtain ⟨_, _, hle⟩ := wayU_ne L x y
        omega)
      have HIN := Lib.hid (yiS_in hok.1 x z)
      have HUN := Lib.hid (fun W b v (hO : OwSn W b v (yiS L x z ((chY L).length - 1))) => i_union b v _ W hO (by have := yiS_len L x z ((chY L).length - 1); omega) (yiS_asc L x z) (HIN.out _ (Nat.le_refl _)))
      rw [yrS_law hok.1 x z] at HUN
      have HC3 := Lib.hid (yiC_long hok hxz)
      have HC0 := Lib.hid (yiC_ok hok hxz)
      have HV0 := Lib.hid (fun e => yiV_ok (yiC_ok hok hxz e))
      have HV3 := Lib.hid (fun e => yiV_no (L := L) (a := x) (b := z) (by rw [yiC_long hok hxz e]; decide))
      have hlim : (yrS L x z).length ≤ 1000 := by
        have h1 := foldJ_len (yiS L x z ((chY L).length - 1)) []
        have h2 := yiS_len L x z ((chY L).length - 1)
        rw [yrS_law hok.1 x z, List.length_nil] at h1
        omega
      have HLM := Lib.hid (fun W b v (hO : OwSn W b v (yrS L x z)) => i_limited b v _ W hO (by omega))
      have heq : ((tx x).toList == (tx z).toList) = false := by
        rw [htx, htz]
        simpa using hxz
      generalize tx x = sx at *
      generalize tx z = sz at *
      clear htx htz h hn hg hok hx hz hxz hcap hlim
      go_enter Tryz.func8, Tryz.ntmps8
      go_wp2_with fail
      refine (HL.out _ _ (HS.out.ext (by (repeat (first | with_reducible exact Ext.refl _ | with_reducible assumption | ((with_reducible apply Src.ext); with_reducible assumption) | with_reducible refine Ext.alloc ?_ _ | with_reducible refine Ext.drew ?_ | with_reducible refine Ext.drewN ?_ _ | ((with_reducible refine Ext.setCell' ?_ ?_ _); solve | omega | simp | (simp; omega)) | (with_reducible refine Ext.trans ?_ (by with_reducible assumption)))))) (by (repeat (first | with_reducible assumption | ((with_reducible apply Blk.new); solve | simp | rfl) | with_reducible apply Blk.drew | with_reducible apply Blk.drewN | ((with_reducible apply Blk.far'); solve | omega | simp | (simp; omega)) | with_reducible apply Blk.set_ | with_reducible apply Blk.alloc | ((with_reducible apply Blk.ext'); with_reducible assumption) | ((with_reducible apply Blk.but'); (with_reducible assumption); solve | omega | (simp; omega)))))).mono ?_
      rintro e w1 ⟨rfl, hx1⟩
      go_wp2_with fail
      refine (HCH.out _ (HS.out.ext (by (repeat (first | with_reducible exact Ext.refl _ | with_reducible assumption | ((with_reducible apply Src.ext); with_reducible assumption) | with_reducible refine Ext.alloc ?_ _ | with_reducible refine Ext.drew ?_ | with_reducible refine Ext.drewN ?_ _ | ((with_reducible refine Ext.setCell' ?_ ?_ _); solve | omega | simp | (simp; omega)) | (with_reducible refine Ext.trans ?_ (by with_reducible assumption))))))).mono ?_
      rintro e w2 ⟨vy, rfl, hOY, hx2⟩
      obtain ⟨A2, c2, rfl, hSY, hq2⟩ := hOY.sl len_encI
      have HSY := Lib.hid hSY
      have hx02 : Ext w w2 := by (repeat (first | with_reducible exact Ext.refl _ | with_reducible assumption | ((with_reducible apply Src.ext); with_reducible assumption) | with_reducible refine Ext.alloc ?_ _ | with_reducible refine Ext.drew ?_ | with_reducible refine Ext.drewN ?_ _ | ((with_reducible refine Ext.setCell' ?_ ?_ _); solve | omega | simp | (simp; omega)) | (with_reducible refine Ext.trans ?_ (by with_reducible assumption))))
      have HX2 := Lib.hid hx02
      have hsz := hx02.size
      obtain ⟨un, hun⟩ : ∃ un, un = (chY L).length := ⟨_, rfl⟩
      have HUE := Lib.hid hun
      have hun1 : 1 ≤ un := by
        obtain ⟨j, hj, _⟩ := chY_at (L := L) (z := -3000) (by unfold chL; simp)
        omega
      rw [← hun] at HUN HIN hY0 ⊢
      clear hun hOY hSY hq2
      go_wp2
      go_loopw [9, 11] (fun v i wr => ∃ k : Nat, k + 1 ≤ un ∧ i = .int .i64 ((k : Int) + 1) ∧ Hid (OwSn wr w2.heap.size v (yiS L x z k)) ∧ Ext w2 wr) (fun _ i _ => un - (intOf i).toNat)
      case atStart => exact ⟨0, by omega, rfl, Lib.hid (Own.nil _ _), by (repeat (first | with_reducible exact Ext.refl _ | with_reducible assumption | ((with_reducible apply Src.ext); with_reducible assumption) | with_reducible refine Ext.alloc ?_ _ | with_reducible refine Ext.drew ?_ | with_reducible refine Ext.drewN ?_ _ | ((with_reducible refine Ext.setCell' ?_ ?_ _); solve | omega | simp | (simp; omega)) | (with_reducible refine Ext.trans ?_ (by with_reducible assumption))))⟩
      case round =>
        obtain ⟨k, hk, rfl, HV, hxr⟩ := hrel
        obtain ⟨w5, rfl⟩ : ∃ x, x = wr := ⟨wr, rfl⟩
        have hsr := hxr.size
        by_cases hlt : k + 1 < un
        · have hkr : k < (chY L).length := by rw [← HUE.out]; omega
          have hkr1 : k + 1 < (chY L).length := by rw [← HUE.out]; omega
          have hcd : decide ((k : Int) + 1 < (un : Int)) = true := decide_eq_true (by omega)
          obtain ⟨b, off, rfl, hbb, d0⟩ := (HSY.out.ext hxr).it hkr
          obtain ⟨b2, off2, e2, hbb2, d1⟩ := (HSY.out.ext hxr).it hkr1
          injection e2 with e2
          injection e2 with e3 e4
          subst e3 e4
          have hwk : IntKind.i64.wrap ((k : Int) + 1 - 1) = (k : Int) := by rw [IntWalk.i64_in _ (by omega)]; omega
          obtain ⟨y, hy⟩ : ∃ y, y = (chY L).getD k 0 := ⟨_, rfl⟩
          have HY := Lib.hid hy
          rw [← hy] at d0
          clear hy
          by_cases hm : z ∈ (wayU L x y).1
          · have hmd : decide (z ∈ (wayU L x y).1) = true := decide_eq_true hm
            have HI : Hid (insY L x z ((chY L).getD k 0) = true) := Lib.hid (by rw [← HY.out]; exact hmd)
            have HCY := Lib.hid (fun W A1 c1 hW => HCO.out W A1 c1 (wayU L x y).1 hW (HWL.out y))
            rw [hmd] at HCY
            obtain ⟨y2, hy2⟩ : ∃ y2, y2 = (chY L).getD (k + 1) 0 := ⟨_, rfl⟩
            have HY2 := Lib.hid hy2
            rw [← hy2] at d1
            have htn : ((k : Int) + 1).toNat = k + 1 := by omega
            have hlt0 : k < un := by omega
            obtain ⟨j1, j2, j3, j4⟩ := HIN.out (k + 1) (by omega) (y, y2 - 1) (by rw [yiS_yes HI.out, ← HY.out, ← HY2.out]; exact List.mem_append_right _ (List.mem_singleton.2 rfl))
            simp only at j3 j4
            have hw1 : IntKind.i64.wrap (y2 - 1) = y2 - 1 := IntWalk.i64_in _ (by omega)
            have hkl := yiS_len L x z k
            clear hm hmd hy2 j1 j2
            go_wp2_with fail
            refine (HWU.out _ _ (HS.out.ext (by (repeat (first | with_reducible exact Ext.refl _ | with_reducible assumption | ((with_reducible apply Src.ext); with_reducible assumption) | with_reducible refine Ext.alloc ?_ _ | with_reducible refine Ext.drew ?_ | with_reducible refine Ext.drewN ?_ _ | ((with_reducible refine Ext.setCell' ?_ ?_ _); solve | omega | simp | (simp; omega)) | (with_reducible refine Ext.trans ?_ (by with_reducible assumption))))))).mono ?_
            rintro e w6 ⟨v6, rfl, hO6, hx6⟩
            obtain ⟨A6, c6, rfl, hS6, hq6⟩ := hO6.sl len_encS
            have HS6 := Lib.hid hS6
            have hs6 := hx6.size
            clear hO6 hS6 hq6
            go_wp2_with fail
            refine (HCY.out _ _ _ (HS6.out.ext (by (repeat (first | with_reducible exact Ext.refl _ | with_reducible assumption | ((with_reducible apply Src.ext); with_reducible assumption) | with_reducible refine Ext.alloc ?_ _ | with_reducible refine Ext.drew ?_ | with_reducible refine Ext.drewN ?_ _ | ((with_reducible refine Ext.setCell' ?_ ?_ _); solve | omega | simp | (simp; omega)) | (with_reducible refine Ext.trans ?_ (by with_reducible assumption))))))).mono ?_
            rintro e w7 ⟨rfl, hx7⟩
            have hs7 := hx7.size
            obtain ⟨hc6, hf6⟩ := hx6.rules
            obtain ⟨hc7, hf7⟩ := hx7.rules
            have hb6 : b < w6.heap.size := by omega
            have hb7 : b < w7.heap.size := by omega
            go_wp2
            have hx57 : Ext w5 w7 := hx6.trans hx7
            have HKN : Hid (∀ W, Ext w2 W → W.cell? ⟨b, off + k, none⟩ = some (.int .i64 y) ∧ W.cell? ⟨b, off + (k + 1), none⟩ = some (.int .i64 y2)) := Lib.hid (fun W hW => ⟨by have := (HSY.out.ext hW).it' hkr; rwa [← HY.out] at this, by have := (HSY.out.ext hW).it' hkr1; rwa [← HY2.out] at this⟩)
            have HX57 := Lib.hid hx57
            obtain ⟨v1, v2⟩ := HKN.out w7 (hxr.trans hx57)
            have i0 : IntKind.i64.wrap (k : Int) = (k : Int) := IntWalk.i64_in _ (by omega)
            have i1 : (0 : Int) ≤ (k : Int) := by omega
            have i2 : (k : Int) < (un : Int) := by omega
            have i3 : (0 : Int) ≤ (k : Int) + 1 := by omega
            have i4 : (k : Int) + 1 < (un : Int) := by omega
            clear hx57 d0 d1
            go_region_held3 (fun w' => w'.cell? ⟨b, off + k, none⟩ = some (.int .i64 y) ∧ w'.cell? ⟨b, off + (k + 1), none⟩ = some (.int .i64 y2)) (first | exact hk8 | exact HKN.out _ (by (repeat (first | with_reducible exact Ext.refl _ | with_reducible assumption | ((with_reducible apply Src.ext); with_reducible assumption) | with_reducible refine Ext.alloc ?_ _ | with_reducible refine Ext.drew ?_ | with_reducible refine Ext.drewN ?_ _ | ((with_reducible refine Ext.setCell' ?_ ?_ _); solve | omega | simp | (simp; omega)) | (with_reducible refine Ext.trans ?_ (by with_reducible assumption))))) | go_keep) (first | (refine step_append_sl elSn len_encSn one_encSn rfl _ _ rfl rfl (HV.out.ext (by (repeat (first | with_reducible exact Ext.refl _ | with_reducible assumption | ((with_reducible apply Src.ext); with_reducible assumption) | with_reducible refine Ext.alloc ?_ _ | with_reducible refine Ext.drew ?_ | with_reducible refine Ext.drewN ?_ _ | ((with_reducible refine Ext.setCell' ?_ ?_ _); solve | omega | simp | (simp; omega)) | (with_reducible refine Ext.trans ?_ (by with_reducible assumption)))))) (xs := [(y, y2 - 1)]) rfl (blk_sn1 (by (repeat (first | with_reducible assumption | ((with_reducible apply Blk.new); solve | simp | rfl) | with_reducible apply Blk.drew | with_reducible apply Blk.drewN | ((with_reducible apply Blk.far'); solve | omega | simp | (simp; omega)) | with_reducible apply Blk.set_ | with_reducible apply Blk.alloc | ((with_reducible apply Blk.ext'); with_reducible assumption) | ((with_reducible apply Blk.but'); (with_reducible assumption); solve | omega | (simp; omega))))) rfl) (by simp only [List.length_cons, List.length_nil]; unfold maxLen; omega) (by simp only [List.length_cons, List.length_nil]; omega) (by first | omega | (simp; omega)) ?_; intro v' w8 hown hgrow _; have hx8 : Ext w2 w8 := Ext.grown (by (repeat (first | with_reducible exact Ext.refl _ | with_reducible assumption | ((with_reducible apply Src.ext); with_reducible assumption) | with_reducible refine Ext.alloc ?_ _ | with_reducible refine Ext.drew ?_ | with_reducible refine Ext.drewN ?_ _ | ((with_reducible refine Ext.setCell' ?_ ?_ _); solve | omega | simp | (simp; omega)) | (with_reducible refine Ext.trans ?_ (by with_reducible assumption))))) hgrow (fun q hq => (HV.out.row q hq).1); have HV2 := Lib.hid hown; have hk8 := HKN.out w8 hx8))
            all_goals
            clear hown hgrow
            go_wp2
            go_roundw
            case rel => exact ⟨k + 1, by omega, by simp, Lib.hid (by rw [yiS_yes HI.out, ← HY.out, ← HY2.out]; exact HV2.out), by (repeat (first | with_reducible exact Ext.refl _ | with_reducible assumption | ((with_reducible apply Src.ext); with_reducible assumption) | with_reducible refine Ext.alloc ?_ _ | with_reducible refine Ext.drew ?_ | with_reducible refine Ext.drewN ?_ _ | ((with_reducible refine Ext.setCell' ?_ ?_ _); solve | omega | simp | (simp; omega)) | (with_reducible refine Ext.trans ?_ (by with_reducible assumption))))⟩
            case measure => simp [intOf]; omega
          · have hmd : decide (z ∈ (wayU L x y).1) = false := decide_eq_false hm
            have HI : Hid (insY L x z ((chY L).getD k 0) = false) := Lib.hid (by rw [← HY.out]; exact hmd)
            have HCY := Lib.hid (fun W A1 c1 hW => HCO.out W A1 c1 (wayU L x y).1 hW (HWL.out y))
            rw [hmd] at HCY
            clear hm hmd
            go_wp2_with fail
            refine (HWU.out _ _ (HS.out.ext (by (repeat (first | with_reducible exact Ext.refl _ | with_reducible assumption | ((with_reducible apply Src.ext); with_reducible assumption) | with_reducible refine Ext.alloc ?_ _ | with_reducible refine Ext.drew ?_ | with_reducible refine Ext.drewN ?_ _ | ((with_reducible refine Ext.setCell' ?_ ?_ _); solve | omega | simp | (simp; omega)) | (with_reducible refine Ext.trans ?_ (by with_reducible assumption))))))).mono ?_
            rintro e w6 ⟨v6, rfl, hO6, hx6⟩
            obtain ⟨A6, c6, rfl, hS6, hq6⟩ := hO6.sl len_encS
            have HS6 := Lib.hid hS6
            have hs6 := hx6.size
            clear hO6 hS6 hq6
            go_wp2_with fail
            refine (HCY.out _ _ _ (HS6.out.ext (by (repeat (first | with_reducible exact Ext.refl _ | with_reducible assumption | ((with_reducible apply Src.ext); with_reducible assumption) | with_reducible refine Ext.alloc ?_ _ | with_reducible refine Ext.drew ?_ | with_reducible refine Ext.drewN ?_ _ | ((with_reducible refine Ext.setCell' ?_ ?_ _); solve | omega | simp | (simp; omega)) | (with_reducible refine Ext.trans ?_ (by with_reducible assumption))))))).mono ?_
            rintro e w7 ⟨rfl, hx7⟩
            go_wp2
            go_roundw
            case rel => exact ⟨k + 1, by omega, by simp, Lib.hid (by rw [yiS_no HI.out]; exact HV.out.ext (by (repeat (first | with_reducible exact Ext.refl _ | with_reducible assumption | ((with_reducible apply Src.ext); with_reducible assumption) | with_reducible refine Ext.alloc ?_ _ | with_reducible refine Ext.drew ?_ | with_reducible refine Ext.drewN ?_ _ | ((with_reducible refine Ext.setCell' ?_ ?_ _); solve | omega | simp | (simp; omega)) | (with_reducible refine Ext.trans ?_ (by with_reducible assumption)))))), by (repeat (first | with_reducible exact Ext.refl _ | with_reducible assumption | ((with_reducible apply Src.ext); with_reducible assumption) | with_reducible refine Ext.alloc ?_ _ | with_reducible refine Ext.drew ?_ | with_reducible refine Ext.drewN ?_ _ | ((with_reducible refine Ext.setCell' ?_ ?_ _); solve | omega | simp | (simp; omega)) | (with_reducible refine Ext.trans ?_ (by with_reducible assumption))))⟩
            case measure => simp [intOf]; omega
        · have hku : k = un - 1 := by omega
          have hcd : decide ((k : Int) + 1 < (un : Int)) = false := decide_eq_false (by omega)
          rw [hku] at HV
          obtain ⟨A5, c5, rfl, hq5⟩ := HV.out.sl len_encSn
          have HU5 := Lib.hid (HUN.out _ _ _ HV.out)
          generalize (yiS L x z (un - 1)).length = l5 at *
          clear hq5 hku
          go_wp2_with fail
          refine HU5.out.mono ?_
          rintro e w8 ⟨v8, rfl, hO8, hx8⟩
          have HO8 := Lib.hid hO8
          have HX8 := Lib.hid hx8
          have HL8 := Lib.hid (HLM.out _ _ _ hO8)
          obtain ⟨A8, c8, rfl, hq8⟩ := hO8.sl len_encSn
          obtain ⟨l8, hl8⟩ : ∃ l8, l8 = (yrS L x z).length := ⟨_, rfl⟩
          rw [← hl8] at HL8 HO8 HC3 HC0 HV0 HV3 ⊢
          clear hO8 hq8 hx8 hl8
          go_wp2_with fail
          refine HL8.out.mono ?_
          rintro e w9 ⟨⟨h12, rfl⟩ | ⟨h12, rfl⟩, rfl⟩
          · have HR1 := Lib.hid (HC3.out h12)
            have HR2 := Lib.hid (HV3.out h12)
            go_wp2
            go_ret2
            exact ⟨_, by rw [HR1.out]; rfl, by rw [HR2.out]; exact Own.nil _ _, HX2.out.trans (hxr.trans HX8.out)⟩
          · have HR1 := Lib.hid (HC0.out h12)
            have HR2 := Lib.hid (HV0.out h12)
            go_wp2
            go_ret2
            exact ⟨_, by rw [HR1.out]; rfl, by rw [HR2.out]; exact HO8.out.less (by have := hxr.size; omega), HX2.out.trans (hxr.trans HX8.out)⟩
  · rw [lkC_two hok] at HL
    have hC := yiC_bad hok
    have hV := yiV_no (L := L) (a := x) (b := z) (by rw [hC]; decide)
    rw [hC, hV]
    generalize tx x = sx at *
    generalize tx z = sz at *
    clear hC hV htx htz h hn hg hok hx hz hcap
    go_enter Tryz.func8, Tryz.ntmps8
    go_wp2_with fail
    refine (HL.out _ _ (HS.out.ext (by (repeat (first | with_reducible exact Ext.refl _ | with_reducible assumption | ((with_reducible apply Src.ext); with_reducible assumption) | with_reducible refine Ext.alloc ?_ _ | with_reducible refine Ext.drew ?_ | with_reducible refine Ext.drewN ?_ _ | ((with_reducible refine Ext.setCell' ?_ ?_ _); solve | omega | simp | (simp; omega)) | (with_reducible refine Ext.trans ?_ (by with_reducible assumption)))))) (by (repeat (first | with_reducible assumption | ((with_reducible apply Blk.new); solve | simp | rfl) | with_reducible apply Blk.drew | with_reducible apply Blk.drewN | ((with_reducible apply Blk.far'); solve | omega | simp | (simp; omega)) | with_reducible apply Blk.set_ | with_reducible apply Blk.alloc | ((with_reducible apply Blk.ext'); with_reducible assumption) | ((with_reducible apply Blk.but'); (with_reducible assumption); solve | omega | (simp; omega)))))).mono ?_
    rintro e w1 ⟨rfl, hx1⟩
    go_wp2
    go_ret2
    exact ⟨_, rfl, Own.nil _ _, by (repeat (first | with_reducible exact Ext.refl _ | with_reducible assumption | ((with_reducible apply Src.ext); with_reducible assumption) | with_reducible refine Ext.alloc ?_ _ | with_reducible refine Ext.drew ?_ | with_reducible refine Ext.drewN ?_ _ | ((with_reducible refine Ext.setCell' ?_ ?_ _); solve | omega | simp | (simp; omega)) | (with_reducible refine Ext.trans ?_ (by with_reducible assumption))))⟩
end
end Go.Proofs.YtmpgjajkaehdiaaGreatDoor
