/- The law of rings, walked over the translation. -/
import Derived.Test.YteppjdoggjcdoaaDR
import Derived.Test.YteppjdoggjcdoaaH
import Derived.Test.YteppjdoggjcdoaaRB
import Derived.Deep.RegionHeld3
import Derived.Deep.DeepCutAuto
import Derived.RegionTactic
import Derived.BigRegion
import Derived.WalkLawsBesides
import Derived.WalkSpells
import Derived.Lib.MinMax
import Derived.Outline
namespace Go.Proofs.Yteppjdoggjcdoaa
open Go.RowKit
attribute [local go_sem] ExtOf.cell ExtOf.frozen

theorem l_bigR (A : Option Addr) (c : Nat) (n : Nat) (w : World) : Calls Try.prog 7 #[.slice A n c] w fun e w' => e = .returned (.bool (decide (4096 < n))) ∧ w = w' := by
  go_enter Try.func7, Try.ntmps7
  go_wp2
  go_ret
  exact ⟨ret_bool (by simp; try omega), rfl⟩
set_option maxHeartbeats 1600000 in
theorem l_likeP (A A' : Option Addr) (n c c' : Nat) (ps : List (Int × Int)) (w : World) (h : SlAt w 2 encP A ps) (h' : SlAt w 2 encP A' ps) (hn : n = ps.length) (hl : n ≤ 1048576) :
    Calls Try.prog 24 #[.slice A n c, .slice A' n c'] w fun e w' => e = .returned (.bool true) ∧ Ext w w' := by
  have hn1 : (((n : Nat) : Int) != (n : Int)) = false := by simp
  have HN := Lib.hid hn
  clear hn
  go_enter Try.func24, Try.ntmps24
  go_wp2
  go_loopw [5] (fun i wr => ∃ k : Nat, k ≤ n ∧ i = .int .i64 k ∧ Ext w wr) (fun i _ => n - (intOf i).toNat)
  case atStart => exact ⟨0, Nat.zero_le _, rfl, by (repeat (first | with_reducible exact Ext.refl _ | with_reducible assumption | ((with_reducible apply Src.ext); with_reducible assumption) | with_reducible refine Ext.alloc ?_ _ | with_reducible refine Ext.drew ?_ | with_reducible refine Ext.drewN ?_ _ | ((with_reducible refine Ext.setCell' ?_ ?_ _); solve | omega | simp | (simp; omega)) | (with_reducible refine Ext.trans ?_ (by with_reducible assumption))))⟩
  case round =>
    obtain ⟨k, hk, rfl, hx⟩ := hrel
    by_cases hlt : k < n
    · obtain ⟨b, off, rfl, hb, d0, d1⟩ := (h.ext hx).pt (k := k) (by rw [← HN.out]; exact hlt)
      obtain ⟨b', off', rfl, hb', e0, e1⟩ := (h'.ext hx).pt (k := k) (by rw [← HN.out]; exact hlt)
      generalize ps.getD k (0, 0) = p at *
      obtain ⟨x, z⟩ := p
      simp only at d0 d1 e0 e1
      have hxx : eqP x z x z = true := by simp [eqP]
      go_wp2
      (refine wp_region_ext (by kernel_rfl) (by kernel_rfl) ?_; (repeat (go_big_quiet_step (fail))); refine wpQuiet_nil ?_; intro wq hxwq; obtain ⟨hcwq, hfwq⟩ := hxwq.rules; have hswq := hxwq.size; (try simp at hswq))
      go_wp2
      go_roundw
      case rel => exact ⟨k + 1, by omega, by go_num, by (repeat (first | with_reducible exact Ext.refl _ | with_reducible assumption | ((with_reducible apply Src.ext); with_reducible assumption) | with_reducible refine Ext.alloc ?_ _ | with_reducible refine Ext.drew ?_ | with_reducible refine Ext.drewN ?_ _ | ((with_reducible refine Ext.setCell' ?_ ?_ _); solve | omega | simp | (simp; omega)) | (with_reducible refine Ext.trans ?_ (by with_reducible assumption))))⟩
      case measure => simp [intOf]; omega
    · go_wp2
      go_ret
      exact ⟨rfl, by (repeat (first | with_reducible exact Ext.refl _ | with_reducible assumption | ((with_reducible apply Src.ext); with_reducible assumption) | with_reducible refine Ext.alloc ?_ _ | with_reducible refine Ext.drew ?_ | with_reducible refine Ext.drewN ?_ _ | ((with_reducible refine Ext.setCell' ?_ ?_ _); solve | omega | simp | (simp; omega)) | (with_reducible refine Ext.trans ?_ (by with_reducible assumption))))⟩


theorem norm_ccw {ps : List (Int × Int)} (h : ringB ps = true) : decide (0 < areaZ (normS ps)) = true := by
  have hr := ringB_iff.1 h
  have h0 : 0 < ps.length := by have := hr.1; omega
  rw [area_norm h0]
  have := hr.area
  exact decide_eq_true (by omega)

set_option maxRecDepth 20000 in
set_option maxHeartbeats 25600000 in
theorem fnRings_walk (A : Option Addr) (c : Nat) (bs : List Int) (w : World) (h : SlAt w 1 encB A bs) (hb : ∀ b ∈ bs, 0 ≤ b ∧ b ≤ 255) :
    Calls Try.prog 3 #[.slice A bs.length c] w fun e w' => e = .returned (.bool true) ∧ Ext w w' := by
  have HB := Lib.hid hb
  clear hb
  by_cases hl : bs.length ≤ 4096
  · have hbg : ∀ W, Calls Try.prog 7 #[.slice A bs.length c] W fun e w' => e = .returned (.bool false) ∧ W = w' := fun W => by
      have := l_bigR A c bs.length W
      rwa [decide_eq_false (by omega)] at this
    have HG := Lib.hid hbg
    have HL := Lib.hid hl
    clear hbg hl
    go_enter Try.func3, Try.ntmps3
    (go_wp2_with fail; refine (HG.out _).mono ?_; rintro e w' ⟨rfl, rfl⟩)
    go_wp2_with fail
    refine (s_DrawNormalRing _ _ bs _ (h.ext (by (repeat (first | with_reducible exact Ext.refl _ | with_reducible assumption | ((with_reducible apply Src.ext); with_reducible assumption) | with_reducible refine Ext.alloc ?_ _ | with_reducible refine Ext.drew ?_ | with_reducible refine Ext.drewN ?_ _ | ((with_reducible refine Ext.setCell' ?_ ?_ _); solve | omega | simp | (simp; omega)) | (with_reducible refine Ext.trans ?_ (by with_reducible assumption)))))) HB.out HL.out).mono ?_
    rintro e w1 ⟨A1, c1, ps, rfl, hS1, hc1, hl1, hx1⟩
    have hpl : ps.length ≤ 1048576 := by omega
    have HC1 := Lib.hid hc1
    have HL1 := Lib.hid hl1
    have HI0 := Lib.hid fun W hS => i_NormalRing A1 c1 ps W hS hpl hc1
    have HS0 := Lib.hid fun W hS => s_NormalRing A1 c1 ps W hS hpl
    have HI1 := Lib.hid fun W hS => i_TwiceArea A1 c1 ps W hS hpl hc1
    have HS1 := Lib.hid fun W hS => s_TwiceArea A1 c1 ps W hS hpl
    have HI2 := Lib.hid fun W hS => i_CountOnBorder A1 c1 ps W hS hpl hc1
    have HS2 := Lib.hid fun W hS => s_CountOnBorder A1 c1 ps W hS hpl
    have HI3 := Lib.hid fun W hS => i_CountInside A1 c1 ps W hS hpl hc1
    have HS3 := Lib.hid fun W hS => s_CountInside A1 c1 ps W hS hpl
    have HI4 := Lib.hid fun W hS => i_IsCounterclockwise A1 c1 ps W hS hpl hc1
    have HS4 := Lib.hid fun W hS => s_IsCounterclockwise A1 c1 ps W hS hpl
    have HI5 := Lib.hid fun W hS => i_IsConvex A1 c1 ps W hS hpl hc1
    have HS5 := Lib.hid fun W hS => s_IsConvex A1 c1 ps W hS hpl
    have HNP : Hid (nrP ps = if ringB ps = true then normS ps else []) := Lib.hid rfl
    cases hr : ringB ps with
    | true =>
      have hnl : (normS ps).length = ps.length := normS_len ps
      have hrp := ringB_iff.1 hr
      have HPK := Lib.hid (pick_law hr)
      have HAB := Lib.hid (areaA_bd hr)
      have HBB := Lib.hid (borderZ_bd hr)
      have HIN : Hid (-24000 ≤ insideZ ps ∧ insideZ ps ≤ 24000000) := Lib.hid (by have h1 := HPK.out; have h2 := HAB.out; have h3 := HBB.out; omega)
      have HREV : Hid (∀ W A c n, n = ps.length → SlAt W 2 encP A ps.reverse → n ≤ c → Calls Try.prog 9 #[.slice A n c] W fun e w' => ∃ v, e = .returned (.tuple #[v, .int .i64 0]) ∧ OwP w' W.heap.size v (normS ps) ∧ Ext W w') := Lib.hid fun W A c n hn hS hc => by
        have hrr : ringB ps.reverse = true := ringB_iff.2 hrp.rev
        have hlr : ps.reverse.length = ps.length := List.length_reverse
        have := i_NormalRing A c ps.reverse W hS (by omega) (by omega)
        rw [ringC_yes hrr, show nrP ps.reverse = normS ps by unfold nrP; rw [if_pos hrr]; exact norm_rev hrp, hlr, ← hn] at this
        exact this
      have HCC : Hid (∀ W A c n, n = ps.length → SlAt W 2 encP A (normS ps) → n ≤ c → Calls Try.prog 17 #[.slice A n c] W fun e w' => e = .returned (.tuple #[.bool true, .int .i64 0]) ∧ Ext W w') := Lib.hid fun W A c n hn hS hc => by
        have hrr : ringB (normS ps) = true := ringB_iff.2 hrp.norm
        have := i_IsCounterclockwise A c (normS ps) W hS (by omega) (by omega)
        rw [ringC_yes hrr, show ifB (ringB (normS ps)) (decide (0 < areaZ (normS ps))) = true by rw [norm_ccw hr]; simp [ifB, hrr], hnl, ← hn] at this
        exact this
      rw [ringC_yes hr, show nrP ps = normS ps by unfold nrP; rw [if_pos hr]] at HI0 HS0
      rw [ringC_yes hr, show ifI (ringB ps) (areaA ps) = areaA ps by simp [ifI, hr]] at HI1 HS1
      rw [ringC_yes hr, show ifI (ringB ps) (borderZ ps) = borderZ ps by simp [ifI, hr]] at HI2 HS2
      rw [ringC_yes hr, show ifI (ringB ps) (insideZ ps) = insideZ ps by simp [ifI, hr]] at HI3 HS3
      rw [ringC_yes hr, show ifB (ringB ps) (decide (0 < areaZ ps)) = decide (0 < areaZ ps) by simp [ifB, hr]] at HI4 HS4
      rw [ringC_yes hr, show ifB (ringB ps) (convB ps) = convB ps by simp [ifB, hr]] at HI5 HS5
      have HHR := Lib.hid hr
      clear hr hrp
      generalize areaA ps = va at *
      generalize borderZ ps = vb at *
      generalize insideZ ps = vi at *
      generalize decide (0 < areaZ ps) = vc at *
      generalize convB ps = vv at *
      obtain ⟨nr, hnr⟩ : ∃ nr, nr = normS ps := ⟨_, rfl⟩
      rw [← hnr] at HI0 HS0 HREV HCC hnl
      have HNL := Lib.hid hnl
      clear hnr hnl HNP
      go_wp2_with fail
      refine (HI0.out _ hS1).mono ?_
      rintro e w2 ⟨v2, rfl, hO2, hx2⟩
      obtain ⟨A2, c2, rfl, hS2, hc2, _, _⟩ := hO2.sl len_encP
      go_wp2_with fail
      refine (HS0.out _ (hS1.ext (by (repeat (first | with_reducible exact Ext.refl _ | with_reducible assumption | ((with_reducible apply Src.ext); with_reducible assumption) | with_reducible refine Ext.alloc ?_ _ | with_reducible refine Ext.drew ?_ | with_reducible refine Ext.drewN ?_ _ | ((with_reducible refine Ext.setCell' ?_ ?_ _); solve | omega | simp | (simp; omega)) | (with_reducible refine Ext.trans ?_ (by with_reducible assumption))))))).mono ?_
      rintro e w3 ⟨v3, rfl, hO3, hx3⟩
      obtain ⟨A3, c3, rfl, hS3, _, _, _⟩ := hO3.sl len_encP
      have HS2' := Lib.hid hS2
      have HS3' := Lib.hid hS3
      clear hO2 hO3 hS2 hS3 HI0 HS0
      (go_wp2_with fail; refine (HI1.out _ (hS1.ext (by (repeat (first | with_reducible exact Ext.refl _ | with_reducible assumption | ((with_reducible apply Src.ext); with_reducible assumption) | with_reducible refine Ext.alloc ?_ _ | with_reducible refine Ext.drew ?_ | with_reducible refine Ext.drewN ?_ _ | ((with_reducible refine Ext.setCell' ?_ ?_ _); solve | omega | simp | (simp; omega)) | (with_reducible refine Ext.trans ?_ (by with_reducible assumption))))))).mono ?_; rintro e w4 ⟨rfl, hx4⟩; obtain ⟨hc4, hf4⟩ := hx4.rules; have hs4 := hx4.size; (try simp at hs4))
      (go_wp2_with fail; refine (HS1.out _ (hS1.ext (by (repeat (first | with_reducible exact Ext.refl _ | with_reducible assumption | ((with_reducible apply Src.ext); with_reducible assumption) | with_reducible refine Ext.alloc ?_ _ | with_reducible refine Ext.drew ?_ | with_reducible refine Ext.drewN ?_ _ | ((with_reducible refine Ext.setCell' ?_ ?_ _); solve | omega | simp | (simp; omega)) | (with_reducible refine Ext.trans ?_ (by with_reducible assumption))))))).mono ?_; rintro e w5 ⟨rfl, hx5⟩; obtain ⟨hc5, hf5⟩ := hx5.rules; have hs5 := hx5.size; (try simp at hs5))
      (go_wp2_with fail; refine (HI2.out _ (hS1.ext (by (repeat (first | with_reducible exact Ext.refl _ | with_reducible assumption | ((with_reducible apply Src.ext); with_reducible assumption) | with_reducible refine Ext.alloc ?_ _ | with_reducible refine Ext.drew ?_ | with_reducible refine Ext.drewN ?_ _ | ((with_reducible refine Ext.setCell' ?_ ?_ _); solve | omega | simp | (simp; omega)) | (with_reducible refine Ext.trans ?_ (by with_reducible assumption))))))).mono ?_; rintro e w6 ⟨rfl, hx6⟩; obtain ⟨hc6, hf6⟩ := hx6.rules; have hs6 := hx6.size; (try simp at hs6))
      (go_wp2_with fail; refine (HS2.out _ (hS1.ext (by (repeat (first | with_reducible exact Ext.refl _ | with_reducible assumption | ((with_reducible apply Src.ext); with_reducible assumption) | with_reducible refine Ext.alloc ?_ _ | with_reducible refine Ext.drew ?_ | with_reducible refine Ext.drewN ?_ _ | ((with_reducible refine Ext.setCell' ?_ ?_ _); solve | omega | simp | (simp; omega)) | (with_reducible refine Ext.trans ?_ (by with_reducible assumption))))))).mono ?_; rintro e w7 ⟨rfl, hx7⟩; obtain ⟨hc7, hf7⟩ := hx7.rules; have hs7 := hx7.size; (try simp at hs7))
      (go_wp2_with fail; refine (HI3.out _ (hS1.ext (by (repeat (first | with_reducible exact Ext.refl _ | with_reducible assumption | ((with_reducible apply Src.ext); with_reducible assumption) | with_reducible refine Ext.alloc ?_ _ | with_reducible refine Ext.drew ?_ | with_reducible refine Ext.drewN ?_ _ | ((with_reducible refine Ext.setCell' ?_ ?_ _); solve | omega | simp | (simp; omega)) | (with_reducible refine Ext.trans ?_ (by with_reducible assumption))))))).mono ?_; rintro e w8 ⟨rfl, hx8⟩; obtain ⟨hc8, hf8⟩ := hx8.rules; have hs8 := hx8.size; (try simp at hs8))
      (go_wp2_with fail; refine (HS3.out _ (hS1.ext (by (repeat (first | with_reducible exact Ext.refl _ | with_reducible assumption | ((with_reducible apply Src.ext); with_reducible assumption) | with_reducible refine Ext.alloc ?_ _ | with_reducible refine Ext.drew ?_ | with_reducible refine Ext.drewN ?_ _ | ((with_reducible refine Ext.setCell' ?_ ?_ _); solve | omega | simp | (simp; omega)) | (with_reducible refine Ext.trans ?_ (by with_reducible assumption))))))).mono ?_; rintro e w9 ⟨rfl, hx9⟩; obtain ⟨hc9, hf9⟩ := hx9.rules; have hs9 := hx9.size; (try simp at hs9))
      (go_wp2_with fail; refine (HI4.out _ (hS1.ext (by (repeat (first | with_reducible exact Ext.refl _ | with_reducible assumption | ((with_reducible apply Src.ext); with_reducible assumption) | with_reducible refine Ext.alloc ?_ _ | with_reducible refine Ext.drew ?_ | with_reducible refine Ext.drewN ?_ _ | ((with_reducible refine Ext.setCell' ?_ ?_ _); solve | omega | simp | (simp; omega)) | (with_reducible refine Ext.trans ?_ (by with_reducible assumption))))))).mono ?_; rintro e w10 ⟨rfl, hx10⟩; obtain ⟨hc10, hf10⟩ := hx10.rules; have hs10 := hx10.size; (try simp at hs10))
      (go_wp2_with fail; refine (HS4.out _ (hS1.ext (by (repeat (first | with_reducible exact Ext.refl _ | with_reducible assumption | ((with_reducible apply Src.ext); with_reducible assumption) | with_reducible refine Ext.alloc ?_ _ | with_reducible refine Ext.drew ?_ | with_reducible refine Ext.drewN ?_ _ | ((with_reducible refine Ext.setCell' ?_ ?_ _); solve | omega | simp | (simp; omega)) | (with_reducible refine Ext.trans ?_ (by with_reducible assumption))))))).mono ?_; rintro e w11 ⟨rfl, hx11⟩; obtain ⟨hc11, hf11⟩ := hx11.rules; have hs11 := hx11.size; (try simp at hs11))
      (go_wp2_with fail; refine (HI5.out _ (hS1.ext (by (repeat (first | with_reducible exact Ext.refl _ | with_reducible assumption | ((with_reducible apply Src.ext); with_reducible assumption) | with_reducible refine Ext.alloc ?_ _ | with_reducible refine Ext.drew ?_ | with_reducible refine Ext.drewN ?_ _ | ((with_reducible refine Ext.setCell' ?_ ?_ _); solve | omega | simp | (simp; omega)) | (with_reducible refine Ext.trans ?_ (by with_reducible assumption))))))).mono ?_; rintro e w12 ⟨rfl, hx12⟩; obtain ⟨hc12, hf12⟩ := hx12.rules; have hs12 := hx12.size; (try simp at hs12))
      (go_wp2_with fail; refine (HS5.out _ (hS1.ext (by (repeat (first | with_reducible exact Ext.refl _ | with_reducible assumption | ((with_reducible apply Src.ext); with_reducible assumption) | with_reducible refine Ext.alloc ?_ _ | with_reducible refine Ext.drew ?_ | with_reducible refine Ext.drewN ?_ _ | ((with_reducible refine Ext.setCell' ?_ ?_ _); solve | omega | simp | (simp; omega)) | (with_reducible refine Ext.trans ?_ (by with_reducible assumption))))))).mono ?_; rintro e w13 ⟨rfl, hx13⟩; obtain ⟨hc13, hf13⟩ := hx13.rules; have hs13 := hx13.size; (try simp at hs13))
      go_wp2_with fail
      refine (s_DrawSideOf _ _ bs _ (h.ext (by (repeat (first | with_reducible exact Ext.refl _ | with_reducible assumption | ((with_reducible apply Src.ext); with_reducible assumption) | with_reducible refine Ext.alloc ?_ _ | with_reducible refine Ext.drew ?_ | with_reducible refine Ext.drewN ?_ _ | ((with_reducible refine Ext.setCell' ?_ ?_ _); solve | omega | simp | (simp; omega)) | (with_reducible refine Ext.trans ?_ (by with_reducible assumption)))))) HB.out HL.out).mono ?_
      rintro e w14 ⟨A4, c4, qs, x, z, rfl, hS4, hc4, hl4, hx14⟩
      have hql : qs.length ≤ 1048576 := by omega
      have HSI := Lib.hid fun W hS => i_SideOf A4 c4 qs x z W hS hql hc4
      have HSS := Lib.hid fun W hS => s_SideOf A4 c4 qs x z W hS hql
      generalize ifI (sideB qs x z) (sideZ qs x z) = vs at *
      generalize sideC qs x z = vsc at *
      (go_wp2_with fail; refine (HSI.out _ (hS4.ext (by (repeat (first | with_reducible exact Ext.refl _ | with_reducible assumption | ((with_reducible apply Src.ext); with_reducible assumption) | with_reducible refine Ext.alloc ?_ _ | with_reducible refine Ext.drew ?_ | with_reducible refine Ext.drewN ?_ _ | ((with_reducible refine Ext.setCell' ?_ ?_ _); solve | omega | simp | (simp; omega)) | (with_reducible refine Ext.trans ?_ (by with_reducible assumption))))))).mono ?_; rintro e w15 ⟨rfl, hx15⟩; obtain ⟨hc15, hf15⟩ := hx15.rules; have hs15 := hx15.size; (try simp at hs15))
      (go_wp2_with fail; refine (HSS.out _ (hS4.ext (by (repeat (first | with_reducible exact Ext.refl _ | with_reducible assumption | ((with_reducible apply Src.ext); with_reducible assumption) | with_reducible refine Ext.alloc ?_ _ | with_reducible refine Ext.drew ?_ | with_reducible refine Ext.drewN ?_ _ | ((with_reducible refine Ext.setCell' ?_ ?_ _); solve | omega | simp | (simp; omega)) | (with_reducible refine Ext.trans ?_ (by with_reducible assumption))))))).mono ?_; rintro e w16 ⟨rfl, hx16⟩; obtain ⟨hc16, hf16⟩ := hx16.rules; have hs16 := hx16.size; (try simp at hs16))
      have e1 : (va != va) = false := by simp
      have e2 : (vb != vb) = false := by simp
      have e3 : (vi != vi) = false := by simp
      have e4 : (vc != vc) = false := by simp
      have e5 : (vv != vv) = false := by simp
      have e6 : (vs != vs) = false := by simp
      have e7 : (vsc != vsc) = false := by simp
      have hnn : nr.length ≤ 1048576 := by have := HNL.out; omega
      (go_wp2_with fail; refine (l_likeP _ _ _ _ _ nr _ (HS2'.out.ext (by (repeat (first | with_reducible exact Ext.refl _ | with_reducible assumption | ((with_reducible apply Src.ext); with_reducible assumption) | with_reducible refine Ext.alloc ?_ _ | with_reducible refine Ext.drew ?_ | with_reducible refine Ext.drewN ?_ _ | ((with_reducible refine Ext.setCell' ?_ ?_ _); solve | omega | simp | (simp; omega)) | (with_reducible refine Ext.trans ?_ (by with_reducible assumption)))))) (HS3'.out.ext (by (repeat (first | with_reducible exact Ext.refl _ | with_reducible assumption | ((with_reducible apply Src.ext); with_reducible assumption) | with_reducible refine Ext.alloc ?_ _ | with_reducible refine Ext.drew ?_ | with_reducible refine Ext.drewN ?_ _ | ((with_reducible refine Ext.setCell' ?_ ?_ _); solve | omega | simp | (simp; omega)) | (with_reducible refine Ext.trans ?_ (by with_reducible assumption)))))) rfl hnn).mono ?_; rintro e w17 ⟨rfl, hx17⟩; obtain ⟨hc17, hf17⟩ := hx17.rules; have hs17 := hx17.size; (try simp at hs17))
      have hwl : IntKind.i64.wrap ((ps.length : Int) - 1) = (ps.length : Int) - 1 := IntWalk.i64_in _ (by have := HL1.out; omega)
      have hv1 : IntKind.i64.wrap (2 * vi) = 2 * vi := IntWalk.i64_in _ (by have := HIN.out; omega)
      have hv2 : IntKind.i64.wrap (2 * vi + vb) = 2 * vi + vb := IntWalk.i64_in _ (by have := HIN.out; have := HBB.out; omega)
      have hv3 : IntKind.i64.wrap (2 * vi + vb - 2) = 2 * vi + vb - 2 := IntWalk.i64_in _ (by have := HIN.out; have := HBB.out; omega)
      have hv4 : (va == 2 * vi + vb - 2) = true := by rw [beq_iff_eq]; exact HPK.out
      clear HI1 HS1 HI2 HS2 HI3 HS3 HI4 HS4 HI5 HS5 HSI HSS e1 e2 e3 e4 e5 e6 e7
      go_wp2
      go_loopw [34, 35] (fun v i wr => ∃ j : Nat, j ≤ ps.length ∧ i = .int .i64 ((ps.length : Int) - 1 - (j : Int)) ∧ Hid (OwP wr w17.heap.size v (ps.reverse.take j)) ∧ Ext w17 wr) (fun _ i _ => (intOf i + 1).toNat)
      case atStart => exact ⟨0, by omega, by simp, Lib.hid (World.ownsRow_made (base := w17.heap.size) (e := 33) (size := 2) w17 #[] 0 (Nat.le_refl _) (Nat.zero_le _) rfl), by (repeat (first | with_reducible exact Ext.refl _ | with_reducible assumption | ((with_reducible apply Src.ext); with_reducible assumption) | with_reducible refine Ext.alloc ?_ _ | with_reducible refine Ext.drew ?_ | with_reducible refine Ext.drewN ?_ _ | ((with_reducible refine Ext.setCell' ?_ ?_ _); solve | omega | simp | (simp; omega)) | (with_reducible refine Ext.trans ?_ (by with_reducible assumption))))⟩
      case round =>
        obtain ⟨j, hj, rfl, HV, hxr⟩ := hrel
        have hsr := hxr.size
        have hS1r : SlAt wr 2 encP A1 ps := hS1.ext (by (repeat (first | with_reducible exact Ext.refl _ | with_reducible assumption | ((with_reducible apply Src.ext); with_reducible assumption) | with_reducible refine Ext.alloc ?_ _ | with_reducible refine Ext.drew ?_ | with_reducible refine Ext.drewN ?_ _ | ((with_reducible refine Ext.setCell' ?_ ?_ _); solve | omega | simp | (simp; omega)) | (with_reducible refine Ext.trans ?_ (by with_reducible assumption)))))
        by_cases hlt : j < ps.length
        · obtain ⟨kk, hkk⟩ : ∃ kk : Nat, kk = ps.length - 1 - j := ⟨_, rfl⟩
          have hik : (ps.length : Int) - 1 - (j : Int) = (kk : Int) := by omega
          rw [hik]
          have hk1 : kk + 1 + j ≤ ps.length := by omega
          have hk2 : ps.length ≤ kk + 1 + j := by omega
          have HRV : Hid (ps.reverse.take (j + 1) = ps.reverse.take j ++ [ps.getD kk (0, 0)]) := Lib.hid (by
            rw [List.take_succ_eq_append_getElem (by rw [List.length_reverse]; exact hlt), List.getElem_reverse]
            congr 2
            subst hkk
            simp [List.getD, show ps.length - 1 - j < ps.length by omega])
          obtain ⟨b, off, hA, hb, d0, d1⟩ := hS1r.pt (k := kk) (by omega)
          subst hA
          have HK1 := Lib.hid hk1
          have HK2 := Lib.hid hk2
          have hkl : kk < ps.length := by omega
          clear hik hkk hk1 hk2
          generalize ps.getD kk (0, 0) = p at *
          obtain ⟨px, pz⟩ := p
          simp only at d0 d1
          have hw5 : IntKind.i64.wrap ((kk : Int) - 1) = (kk : Int) - 1 := IntWalk.i64_in _ (by have := HL1.out; omega)
          go_wp2_with (at_builtin; refine wpList_append_sl elP len_encP one_encP rfl _ _ rfl rfl (HV.out.ext (by (repeat (first | with_reducible exact Ext.refl _ | with_reducible assumption | ((with_reducible apply Src.ext); with_reducible assumption) | with_reducible refine Ext.alloc ?_ _ | with_reducible refine Ext.drew ?_ | with_reducible refine Ext.drewN ?_ _ | ((with_reducible refine Ext.setCell' ?_ ?_ _); solve | omega | simp | (simp; omega)) | (with_reducible refine Ext.trans ?_ (by with_reducible assumption)))))) (xs := [(px, pz)]) rfl (blk_p1 (by (repeat (first | with_reducible assumption | ((with_reducible apply Blk.new); solve | simp | rfl) | with_reducible apply Blk.drew | with_reducible apply Blk.drewN | ((with_reducible apply Blk.far'); solve | omega | simp | (simp; omega)) | with_reducible apply Blk.set_ | with_reducible apply Blk.alloc | ((with_reducible apply Blk.ext'); with_reducible assumption) | ((with_reducible apply Blk.but'); (with_reducible assumption); solve | omega | (simp; omega)))))) (by have := HL1.out; simp; unfold maxLen; omega) (by have := HL1.out; simp; omega) (by first | omega | (simp; omega)) ?_)
          intro v' w4 hown hgrow _
          have HV4 := Lib.hid hown
          have hx4 : Ext w17 w4 := Ext.grown (hxr.trans (by (repeat (first | with_reducible exact Ext.refl _ | with_reducible assumption | ((with_reducible apply Src.ext); with_reducible assumption) | with_reducible refine Ext.alloc ?_ _ | with_reducible refine Ext.drew ?_ | with_reducible refine Ext.drewN ?_ _ | ((with_reducible refine Ext.setCell' ?_ ?_ _); solve | omega | simp | (simp; omega)) | (with_reducible refine Ext.trans ?_ (by with_reducible assumption)))))) hgrow (fun q hq => (HV.out.row q hq).1)
          clear hown hgrow
          go_wp2
          go_roundw
          case rel => exact ⟨j + 1, by omega, by have := HK1.out; have := HK2.out; congr 1; omega, Lib.hid (by rw [HRV.out]; exact HV4.out), hx4⟩
          case measure => first | (simp [intOf]; done) | (simp [intOf]; omega)
        · obtain rfl : j = ps.length := by omega
          rw [show (ps.length : Int) - 1 - ((ps.length : Nat) : Int) = -1 by omega]
          obtain ⟨A18, c18, rfl, hS18, hc18, _, _⟩ := HV.out.sl len_encP
          rw [List.take_of_length_le (by rw [List.length_reverse]; exact Nat.le_refl _)] at hS18 hc18 ⊢
          have HR18 := Lib.hid (HREV.out _ _ _ _ List.length_reverse hS18 hc18)
          have HCC2 := Lib.hid fun W hS => HCC.out W A2 c2 nr.length HNL.out hS hc2
          generalize ps.reverse.length = rl at *
          clear HV hS18 hc18
          go_wp2_with fail
          refine HR18.out.mono ?_
          rintro e w19 ⟨v19, rfl, hO19, hx19⟩
          obtain ⟨A19, c19, rfl, hS19, _, _, _⟩ := hO19.sl len_encP
          clear hO19
          go_wp2_with fail
          refine (HCC2.out _ (HS2'.out.ext (by (repeat (first | with_reducible exact Ext.refl _ | with_reducible assumption | ((with_reducible apply Src.ext); with_reducible assumption) | with_reducible refine Ext.alloc ?_ _ | with_reducible refine Ext.drew ?_ | with_reducible refine Ext.drewN ?_ _ | ((with_reducible refine Ext.setCell' ?_ ?_ _); solve | omega | simp | (simp; omega)) | (with_reducible refine Ext.trans ?_ (by with_reducible assumption))))))).mono ?_
          rintro e w20 ⟨rfl, hx20⟩
          (go_wp2_with fail; refine (l_likeP _ _ _ _ _ nr _ (hS19.ext (by (repeat (first | with_reducible exact Ext.refl _ | with_reducible assumption | ((with_reducible apply Src.ext); with_reducible assumption) | with_reducible refine Ext.alloc ?_ _ | with_reducible refine Ext.drew ?_ | with_reducible refine Ext.drewN ?_ _ | ((with_reducible refine Ext.setCell' ?_ ?_ _); solve | omega | simp | (simp; omega)) | (with_reducible refine Ext.trans ?_ (by with_reducible assumption)))))) (HS2'.out.ext (by (repeat (first | with_reducible exact Ext.refl _ | with_reducible assumption | ((with_reducible apply Src.ext); with_reducible assumption) | with_reducible refine Ext.alloc ?_ _ | with_reducible refine Ext.drew ?_ | with_reducible refine Ext.drewN ?_ _ | ((with_reducible refine Ext.setCell' ?_ ?_ _); solve | omega | simp | (simp; omega)) | (with_reducible refine Ext.trans ?_ (by with_reducible assumption)))))) rfl hnn).mono ?_; rintro e w21 ⟨rfl, hx21⟩; obtain ⟨hc21, hf21⟩ := hx21.rules; have hs21 := hx21.size; (try simp at hs21))
          go_wp2
          go_ret
          exact ⟨rfl, by (repeat (first | with_reducible exact Ext.refl _ | with_reducible assumption | ((with_reducible apply Src.ext); with_reducible assumption) | with_reducible refine Ext.alloc ?_ _ | with_reducible refine Ext.drew ?_ | with_reducible refine Ext.drewN ?_ _ | ((with_reducible refine Ext.setCell' ?_ ?_ _); solve | omega | simp | (simp; omega)) | (with_reducible refine Ext.trans ?_ (by with_reducible assumption))))⟩
    | false =>
      have hr' : ¬ ringB ps = true := by rw [hr]; exact Bool.false_ne_true
      rw [ringC_no hr, show nrP ps = [] by unfold nrP; rw [if_neg hr']] at HI0 HS0
      rw [ringC_no hr, show ifI (ringB ps) (areaA ps) = 0 by simp [ifI, hr]] at HI1 HS1
      rw [ringC_no hr, show ifI (ringB ps) (borderZ ps) = 0 by simp [ifI, hr]] at HI2 HS2
      rw [ringC_no hr, show ifI (ringB ps) (insideZ ps) = 0 by simp [ifI, hr]] at HI3 HS3
      rw [ringC_no hr, show ifB (ringB ps) (decide (0 < areaZ ps)) = false by simp [ifB, hr]] at HI4 HS4
      rw [ringC_no hr, show ifB (ringB ps) (convB ps) = false by simp [ifB, hr]] at HI5 HS5
      clear hr hr' HNP
      go_wp2_with fail
      refine (HI0.out _ hS1).mono ?_
      rintro e w2 ⟨v2, rfl, hO2, hx2⟩
      obtain ⟨A2, c2, rfl, hS2, hc2, _, _⟩ := hO2.sl len_encP
      go_wp2_with fail
      refine (HS0.out _ (hS1.ext (by (repeat (first | with_reducible exact Ext.refl _ | with_reducible assumption | ((with_reducible apply Src.ext); with_reducible assumption) | with_reducible refine Ext.alloc ?_ _ | with_reducible refine Ext.drew ?_ | with_reducible refine Ext.drewN ?_ _ | ((with_reducible refine Ext.setCell' ?_ ?_ _); solve | omega | simp | (simp; omega)) | (with_reducible refine Ext.trans ?_ (by with_reducible assumption))))))).mono ?_
      rintro e w3 ⟨v3, rfl, hO3, hx3⟩
      obtain ⟨A3, c3, rfl, hS3, _, _, _⟩ := hO3.sl len_encP
      have HS2' := Lib.hid hS2
      have HS3' := Lib.hid hS3
      clear hO2 hO3 hS2 hS3 HI0 HS0
      (go_wp2_with fail; refine (HI1.out _ (hS1.ext (by (repeat (first | with_reducible exact Ext.refl _ | with_reducible assumption | ((with_reducible apply Src.ext); with_reducible assumption) | with_reducible refine Ext.alloc ?_ _ | with_reducible refine Ext.drew ?_ | with_reducible refine Ext.drewN ?_ _ | ((with_reducible refine Ext.setCell' ?_ ?_ _); solve | omega | simp | (simp; omega)) | (with_reducible refine Ext.trans ?_ (by with_reducible assumption))))))).mono ?_; rintro e w4 ⟨rfl, hx4⟩; obtain ⟨hc4, hf4⟩ := hx4.rules; have hs4 := hx4.size; (try simp at hs4))
      (go_wp2_with fail; refine (HS1.out _ (hS1.ext (by (repeat (first | with_reducible exact Ext.refl _ | with_reducible assumption | ((with_reducible apply Src.ext); with_reducible assumption) | with_reducible refine Ext.alloc ?_ _ | with_reducible refine Ext.drew ?_ | with_reducible refine Ext.drewN ?_ _ | ((with_reducible refine Ext.setCell' ?_ ?_ _); solve | omega | simp | (simp; omega)) | (with_reducible refine Ext.trans ?_ (by with_reducible assumption))))))).mono ?_; rintro e w5 ⟨rfl, hx5⟩; obtain ⟨hc5, hf5⟩ := hx5.rules; have hs5 := hx5.size; (try simp at hs5))
      (go_wp2_with fail; refine (HI2.out _ (hS1.ext (by (repeat (first | with_reducible exact Ext.refl _ | with_reducible assumption | ((with_reducible apply Src.ext); with_reducible assumption) | with_reducible refine Ext.alloc ?_ _ | with_reducible refine Ext.drew ?_ | with_reducible refine Ext.drewN ?_ _ | ((with_reducible refine Ext.setCell' ?_ ?_ _); solve | omega | simp | (simp; omega)) | (with_reducible refine Ext.trans ?_ (by with_reducible assumption))))))).mono ?_; rintro e w6 ⟨rfl, hx6⟩; obtain ⟨hc6, hf6⟩ := hx6.rules; have hs6 := hx6.size; (try simp at hs6))
      (go_wp2_with fail; refine (HS2.out _ (hS1.ext (by (repeat (first | with_reducible exact Ext.refl _ | with_reducible assumption | ((with_reducible apply Src.ext); with_reducible assumption) | with_reducible refine Ext.alloc ?_ _ | with_reducible refine Ext.drew ?_ | with_reducible refine Ext.drewN ?_ _ | ((with_reducible refine Ext.setCell' ?_ ?_ _); solve | omega | simp | (simp; omega)) | (with_reducible refine Ext.trans ?_ (by with_reducible assumption))))))).mono ?_; rintro e w7 ⟨rfl, hx7⟩; obtain ⟨hc7, hf7⟩ := hx7.rules; have hs7 := hx7.size; (try simp at hs7))
      (go_wp2_with fail; refine (HI3.out _ (hS1.ext (by (repeat (first | with_reducible exact Ext.refl _ | with_reducible assumption | ((with_reducible apply Src.ext); with_reducible assumption) | with_reducible refine Ext.alloc ?_ _ | with_reducible refine Ext.drew ?_ | with_reducible refine Ext.drewN ?_ _ | ((with_reducible refine Ext.setCell' ?_ ?_ _); solve | omega | simp | (simp; omega)) | (with_reducible refine Ext.trans ?_ (by with_reducible assumption))))))).mono ?_; rintro e w8 ⟨rfl, hx8⟩; obtain ⟨hc8, hf8⟩ := hx8.rules; have hs8 := hx8.size; (try simp at hs8))
      (go_wp2_with fail; refine (HS3.out _ (hS1.ext (by (repeat (first | with_reducible exact Ext.refl _ | with_reducible assumption | ((with_reducible apply Src.ext); with_reducible assumption) | with_reducible refine Ext.alloc ?_ _ | with_reducible refine Ext.drew ?_ | with_reducible refine Ext.drewN ?_ _ | ((with_reducible refine Ext.setCell' ?_ ?_ _); solve | omega | simp | (simp; omega)) | (with_reducible refine Ext.trans ?_ (by with_reducible assumption))))))).mono ?_; rintro e w9 ⟨rfl, hx9⟩; obtain ⟨hc9, hf9⟩ := hx9.rules; have hs9 := hx9.size; (try simp at hs9))
      (go_wp2_with fail; refine (HI4.out _ (hS1.ext (by (repeat (first | with_reducible exact Ext.refl _ | with_reducible assumption | ((with_reducible apply Src.ext); with_reducible assumption) | with_reducible refine Ext.alloc ?_ _ | with_reducible refine Ext.drew ?_ | with_reducible refine Ext.drewN ?_ _ | ((with_reducible refine Ext.setCell' ?_ ?_ _); solve | omega | simp | (simp; omega)) | (with_reducible refine Ext.trans ?_ (by with_reducible assumption))))))).mono ?_; rintro e w10 ⟨rfl, hx10⟩; obtain ⟨hc10, hf10⟩ := hx10.rules; have hs10 := hx10.size; (try simp at hs10))
      (go_wp2_with fail; refine (HS4.out _ (hS1.ext (by (repeat (first | with_reducible exact Ext.refl _ | with_reducible assumption | ((with_reducible apply Src.ext); with_reducible assumption) | with_reducible refine Ext.alloc ?_ _ | with_reducible refine Ext.drew ?_ | with_reducible refine Ext.drewN ?_ _ | ((with_reducible refine Ext.setCell' ?_ ?_ _); solve | omega | simp | (simp; omega)) | (with_reducible refine Ext.trans ?_ (by with_reducible assumption))))))).mono ?_; rintro e w11 ⟨rfl, hx11⟩; obtain ⟨hc11, hf11⟩ := hx11.rules; have hs11 := hx11.size; (try simp at hs11))
      (go_wp2_with fail; refine (HI5.out _ (hS1.ext (by (repeat (first | with_reducible exact Ext.refl _ | with_reducible assumption | ((with_reducible apply Src.ext); with_reducible assumption) | with_reducible refine Ext.alloc ?_ _ | with_reducible refine Ext.drew ?_ | with_reducible refine Ext.drewN ?_ _ | ((with_reducible refine Ext.setCell' ?_ ?_ _); solve | omega | simp | (simp; omega)) | (with_reducible refine Ext.trans ?_ (by with_reducible assumption))))))).mono ?_; rintro e w12 ⟨rfl, hx12⟩; obtain ⟨hc12, hf12⟩ := hx12.rules; have hs12 := hx12.size; (try simp at hs12))
      (go_wp2_with fail; refine (HS5.out _ (hS1.ext (by (repeat (first | with_reducible exact Ext.refl _ | with_reducible assumption | ((with_reducible apply Src.ext); with_reducible assumption) | with_reducible refine Ext.alloc ?_ _ | with_reducible refine Ext.drew ?_ | with_reducible refine Ext.drewN ?_ _ | ((with_reducible refine Ext.setCell' ?_ ?_ _); solve | omega | simp | (simp; omega)) | (with_reducible refine Ext.trans ?_ (by with_reducible assumption))))))).mono ?_; rintro e w13 ⟨rfl, hx13⟩; obtain ⟨hc13, hf13⟩ := hx13.rules; have hs13 := hx13.size; (try simp at hs13))
      go_wp2_with fail
      refine (s_DrawSideOf _ _ bs _ (h.ext (by (repeat (first | with_reducible exact Ext.refl _ | with_reducible assumption | ((with_reducible apply Src.ext); with_reducible assumption) | with_reducible refine Ext.alloc ?_ _ | with_reducible refine Ext.drew ?_ | with_reducible refine Ext.drewN ?_ _ | ((with_reducible refine Ext.setCell' ?_ ?_ _); solve | omega | simp | (simp; omega)) | (with_reducible refine Ext.trans ?_ (by with_reducible assumption)))))) HB.out HL.out).mono ?_
      rintro e w14 ⟨A4, c4, qs, x, z, rfl, hS4, hc4, hl4, hx14⟩
      have hql : qs.length ≤ 1048576 := by omega
      have HSI := Lib.hid fun W hS => i_SideOf A4 c4 qs x z W hS hql hc4
      have HSS := Lib.hid fun W hS => s_SideOf A4 c4 qs x z W hS hql
      generalize ifI (sideB qs x z) (sideZ qs x z) = vs at *
      generalize sideC qs x z = vsc at *
      (go_wp2_with fail; refine (HSI.out _ (hS4.ext (by (repeat (first | with_reducible exact Ext.refl _ | with_reducible assumption | ((with_reducible apply Src.ext); with_reducible assumption) | with_reducible refine Ext.alloc ?_ _ | with_reducible refine Ext.drew ?_ | with_reducible refine Ext.drewN ?_ _ | ((with_reducible refine Ext.setCell' ?_ ?_ _); solve | omega | simp | (simp; omega)) | (with_reducible refine Ext.trans ?_ (by with_reducible assumption))))))).mono ?_; rintro e w15 ⟨rfl, hx15⟩; obtain ⟨hc15, hf15⟩ := hx15.rules; have hs15 := hx15.size; (try simp at hs15))
      (go_wp2_with fail; refine (HSS.out _ (hS4.ext (by (repeat (first | with_reducible exact Ext.refl _ | with_reducible assumption | ((with_reducible apply Src.ext); with_reducible assumption) | with_reducible refine Ext.alloc ?_ _ | with_reducible refine Ext.drew ?_ | with_reducible refine Ext.drewN ?_ _ | ((with_reducible refine Ext.setCell' ?_ ?_ _); solve | omega | simp | (simp; omega)) | (with_reducible refine Ext.trans ?_ (by with_reducible assumption))))))).mono ?_; rintro e w16 ⟨rfl, hx16⟩; obtain ⟨hc16, hf16⟩ := hx16.rules; have hs16 := hx16.size; (try simp at hs16))
      have e6 : (vs != vs) = false := by simp
      have e7 : (vsc != vsc) = false := by simp
      (go_wp2_with fail; refine (l_likeP _ _ _ _ _ [] _ (HS2'.out.ext (by (repeat (first | with_reducible exact Ext.refl _ | with_reducible assumption | ((with_reducible apply Src.ext); with_reducible assumption) | with_reducible refine Ext.alloc ?_ _ | with_reducible refine Ext.drew ?_ | with_reducible refine Ext.drewN ?_ _ | ((with_reducible refine Ext.setCell' ?_ ?_ _); solve | omega | simp | (simp; omega)) | (with_reducible refine Ext.trans ?_ (by with_reducible assumption)))))) (HS3'.out.ext (by (repeat (first | with_reducible exact Ext.refl _ | with_reducible assumption | ((with_reducible apply Src.ext); with_reducible assumption) | with_reducible refine Ext.alloc ?_ _ | with_reducible refine Ext.drew ?_ | with_reducible refine Ext.drewN ?_ _ | ((with_reducible refine Ext.setCell' ?_ ?_ _); solve | omega | simp | (simp; omega)) | (with_reducible refine Ext.trans ?_ (by with_reducible assumption)))))) rfl (by simp)).mono ?_; rintro e w17 ⟨rfl, hx17⟩; obtain ⟨hc17, hf17⟩ := hx17.rules; have hs17 := hx17.size; (try simp at hs17))
      go_wp2
      go_ret
      exact ⟨rfl, by (repeat (first | with_reducible exact Ext.refl _ | with_reducible assumption | ((with_reducible apply Src.ext); with_reducible assumption) | with_reducible refine Ext.alloc ?_ _ | with_reducible refine Ext.drew ?_ | with_reducible refine Ext.drewN ?_ _ | ((with_reducible refine Ext.setCell' ?_ ?_ _); solve | omega | simp | (simp; omega)) | (with_reducible refine Ext.trans ?_ (by with_reducible assumption))))⟩
  · have hbg : ∀ W, Calls Try.prog 7 #[.slice A bs.length c] W fun e w' => e = .returned (.bool true) ∧ W = w' := fun W => by
      have := l_bigR A c bs.length W
      rwa [decide_eq_true (by omega)] at this
    have HG := Lib.hid hbg
    clear hbg
    go_enter Try.func3, Try.ntmps3
    (go_wp2_with fail; refine (HG.out _).mono ?_; rintro e w' ⟨rfl, rfl⟩)
    go_wp2
    go_ret
    exact ⟨rfl, by (repeat (first | with_reducible exact Ext.refl _ | with_reducible assumption | ((with_reducible apply Src.ext); with_reducible assumption) | with_reducible refine Ext.alloc ?_ _ | with_reducible refine Ext.drew ?_ | with_reducible refine Ext.drewN ?_ _ | ((with_reducible refine Ext.setCell' ?_ ?_ _); solve | omega | simp | (simp; omega)) | (with_reducible refine Ext.trans ?_ (by with_reducible assumption))))⟩

end Go.Proofs.Yteppjdoggjcdoaa
