/- Contracts of the maps: rings apart, walked over the translation. -/
import Derived.Test.YtdbheipjbjcikaaGreatDoorME
import Derived.Test.YtdbheipjbjcikaaGreatDoorMF
import Derived.Deep.RegionHeld3
import Derived.Deep.DeepCutAuto
import Derived.RegionTactic
import Derived.BigRegion
import Derived.WalkLawsBesides
import Derived.WalkSpells
import Derived.Lib.MinMax
import Derived.Outline
namespace Go.Proofs.YtdbheipjbjcikaaGreatDoor
open Go.RowKit
attribute [local go_sem] ExtOf.cell ExtOf.frozen

def touchE (e f : Ed) : Bool := touchB e.1.1 e.1.2 e.2.1 e.2.2 f.1.1 f.1.2 f.2.1 f.2.2
/-- whether two rings may be on a map together, as the reference reckons it -/
def apartS (pa pb : List (Int × Int)) : Bool := (edL (normS pa)).all (fun e => (edL (normS pb)).all (touchE e)) && !(edL pa).any (midE pb) && !(edL pb).any (midE pa)
theorem apart_no {pa pb : List (Int × Int)} (h : false = (edL (normS pa)).all (fun e => (edL (normS pb)).all (touchE e))) : false = apartS pa pb := by simp [apartS, ← h]
set_option maxRecDepth 20000 in
set_option maxHeartbeats 12800000 in
theorem s_l17Apart (A B : Option Addr) (ca cb : Nat) (pa pb : List (Int × Int)) (w : World) (hA : SlAt w 2 encP A pa) (hB : SlAt w 2 encP B pb) (ha0 : 0 < pa.length) (hb0 : 0 < pb.length) (hal : pa.length ≤ 1000) (hbl : pb.length ≤ 1000) (hao : oks pa = true) (hbo : oks pb = true) :
    Calls Tryz.prog 146 #[.slice A pa.length ca, .slice B pb.length cb] w fun e w' => e = .returned (.bool (apartS pa pb)) ∧ Ext w w' := by
  have HAO := Lib.hid hao
  have HBO := Lib.hid hbo
  clear hao hbo
  go_enter Tryz.func146, Tryz.ntmps146
  go_wp2_with fail
  refine (s_l17Edges _ _ pa _ hA ha0 hal HAO.out).mono ?_
  rintro e w1 ⟨v1, rfl, hO1, hx1⟩
  obtain ⟨A1, c1, rfl, hS1, _, _, _⟩ := hO1.sl len_encE
  clear hO1
  go_wp2_with fail
  refine (s_l17Edges _ _ pb _ (hB.ext hx1) hb0 hbl HBO.out).mono ?_
  rintro e w2 ⟨v2, rfl, hO2, hx2⟩
  obtain ⟨A2, c2, rfl, hS2, _, _, _⟩ := hO2.sl len_encE
  clear hO2
  have hx12 := hx1.trans hx2
  have hS1' := hS1.ext hx2
  have hnl : (edL (normS pa)).length ≤ 1000 := by rw [edL_len, normS_len]; exact hal
  have hml : (edL (normS pb)).length ≤ 1000 := by rw [edL_len, normS_len]; exact hbl
  obtain ⟨n, hn⟩ : ∃ n, n = (edL (normS pa)).length := ⟨_, rfl⟩
  obtain ⟨m, hm⟩ : ∃ m, m = (edL (normS pb)).length := ⟨_, rfl⟩
  rw [← hn] at hnl ⊢
  rw [← hm] at hml ⊢
  have HN := Lib.hid hn
  have HM := Lib.hid hm
  clear hn hm hx1 hx2 hS1
  go_wp2
  go_loopw [7] (fun i wr => ∃ k : Nat, k ≤ n ∧ i = .int .i64 k ∧ Hid (∀ j, j < k → (edL (normS pb)).all (touchE ((edL (normS pa)).getD j edD)) = true) ∧ Ext w2 wr) (fun i _ => n - (intOf i).toNat)
  case atStart => exact ⟨0, by omega, rfl, fun j hj => absurd hj (by omega), by (repeat (first | with_reducible exact Ext.refl _ | with_reducible assumption | ((with_reducible apply Src.ext); with_reducible assumption) | with_reducible refine Ext.alloc ?_ _ | with_reducible refine Ext.drew ?_ | with_reducible refine Ext.drewN ?_ _ | ((with_reducible refine Ext.setCell' ?_ ?_ _); solve | omega | simp | (simp; omega)) | (with_reducible refine Ext.trans ?_ (by with_reducible assumption))))⟩
  case round =>
    obtain ⟨k, hk, rfl, HI, hxr⟩ := hrel
    by_cases hlt : k < n
    · go_wp2
      go_loopw [8] (fun i wi => ∃ j : Nat, j ≤ m ∧ i = .int .i64 j ∧ Hid (∀ q, q < j → touchE ((edL (normS pa)).getD k edD) ((edL (normS pb)).getD q edD) = true) ∧ Ext w2 wi) (fun i _ => m - (intOf i).toNat)
      case atStart => exact ⟨0, by omega, rfl, fun j hj => absurd hj (by omega), by (repeat (first | with_reducible exact Ext.refl _ | with_reducible assumption | ((with_reducible apply Src.ext); with_reducible assumption) | with_reducible refine Ext.alloc ?_ _ | with_reducible refine Ext.drew ?_ | with_reducible refine Ext.drewN ?_ _ | ((with_reducible refine Ext.setCell' ?_ ?_ _); solve | omega | simp | (simp; omega)) | (with_reducible refine Ext.trans ?_ (by with_reducible assumption))))⟩
      case round =>
        obtain ⟨j, hj, rfl, HJ, hxi⟩ := hrel
        by_cases hlm : j < m
        · obtain ⟨g, off, a1, a2, a3, a4, rfl, hgr, he, d0, d1, d2, d3⟩ := (hS1'.ext hxi).ed (k := k) (by rw [← HN.out]; exact hlt)
          obtain ⟨g', off', q1, q2, q3, q4, rfl, hgr', hf, f0, f1, f2, f3⟩ := (hS2.ext hxi).ed (k := j) (by rw [← HM.out]; exact hlm)
          have HE := Lib.hid he
          have HF := Lib.hid hf
          clear he hf
          by_cases ht : touchB a1 a2 a3 a4 q1 q2 q3 q4 = true
          · have HT : Hid (touchE ((edL (normS pa)).getD k edD) ((edL (normS pb)).getD j edD) = true) := Lib.hid (by rw [show (edL (normS pa)).getD k edD = ((a1, a2), (a3, a4)) from HE.out, show (edL (normS pb)).getD j edD = ((q1, q2), (q3, q4)) from HF.out]; exact ht)
            have HJ2 := Lib.hid (upTo_succ HJ.out HT.out)
            go_wp2
            (refine wp_region_ext (by kernel_rfl) (by kernel_rfl) ?_; (repeat (go_big_quiet_step ((go_at_call 189; exact Calls_ext (s_touch _ _ _ _ _ _ _ _ _))))); refine wpQuiet_nil ?_; intro wq hxwq; obtain ⟨hcwq, hfwq⟩ := hxwq.rules; have hswq := hxwq.size; (try simp at hswq))
            go_wp2
            go_roundw
            case rel => exact ⟨j + 1, by omega, by go_num, HJ2, by (repeat (first | with_reducible exact Ext.refl _ | with_reducible assumption | ((with_reducible apply Src.ext); with_reducible assumption) | with_reducible refine Ext.alloc ?_ _ | with_reducible refine Ext.drew ?_ | with_reducible refine Ext.drewN ?_ _ | ((with_reducible refine Ext.setCell' ?_ ?_ _); solve | omega | simp | (simp; omega)) | (with_reducible refine Ext.trans ?_ (by with_reducible assumption))))⟩
            case measure => simp [intOf]; omega
          · have ht' : touchB a1 a2 a3 a4 q1 q2 q3 q4 = false := Bool.eq_false_iff.2 ht
            have HT : Hid (touchE ((edL (normS pa)).getD k edD) ((edL (normS pb)).getD j edD) = false) := Lib.hid (by rw [show (edL (normS pa)).getD k edD = ((a1, a2), (a3, a4)) from HE.out, show (edL (normS pb)).getD j edD = ((q1, q2), (q3, q4)) from HF.out]; exact ht')
            clear ht
            go_wp2
            (refine wp_region_ext (by kernel_rfl) (by kernel_rfl) ?_; (repeat (go_big_quiet_step ((go_at_call 189; exact Calls_ext (s_touch _ _ _ _ _ _ _ _ _))))); refine wpQuiet_nil ?_; intro wq hxwq; obtain ⟨hcwq, hfwq⟩ := hxwq.rules; have hswq := hxwq.size; (try simp at hswq))
            go_wp2
            go_ret
            exact ⟨ret_bool (apart_no (all_no (d := edD) (by rw [← HN.out]; exact hlt) (all_no (d := edD) (by rw [← HM.out]; exact hlm) HT.out).symm)), by (repeat (first | with_reducible exact Ext.refl _ | with_reducible assumption | ((with_reducible apply Src.ext); with_reducible assumption) | with_reducible refine Ext.alloc ?_ _ | with_reducible refine Ext.drew ?_ | with_reducible refine Ext.drewN ?_ _ | ((with_reducible refine Ext.setCell' ?_ ?_ _); solve | omega | simp | (simp; omega)) | (with_reducible refine Ext.trans ?_ (by with_reducible assumption))))⟩
        · obtain rfl : j = m := by omega
          have HI2 := Lib.hid (upTo_succ HI.out (all_yes (d := edD) (fun q hq => HJ.out q (by rw [HM.out]; exact hq))).symm)
          go_wp2
          go_roundw
          case rel => exact ⟨k + 1, by omega, by go_num, HI2, by (repeat (first | with_reducible exact Ext.refl _ | with_reducible assumption | ((with_reducible apply Src.ext); with_reducible assumption) | with_reducible refine Ext.alloc ?_ _ | with_reducible refine Ext.drew ?_ | with_reducible refine Ext.drewN ?_ _ | ((with_reducible refine Ext.setCell' ?_ ?_ _); solve | omega | simp | (simp; omega)) | (with_reducible refine Ext.trans ?_ (by with_reducible assumption))))⟩
          case measure => simp [intOf]; omega
    · obtain rfl : k = n := by omega
      have hall := all_yes (P := fun e => (edL (normS pb)).all (touchE e)) (xs := edL (normS pa)) (d := edD) (fun j hj => HI.out j (by rw [HN.out]; exact hj))
      have HALL := Lib.hid hall
      clear hall
      by_cases hA2 : (edL pa).any (midE pb) = true
      · have hc : ∀ W, SlAt W 2 encP A pa → SlAt W 2 encP B pb → Calls Tryz.prog 190 #[.slice A pa.length ca, .slice B pb.length cb] W fun e w' => e = .returned (.bool true) ∧ Ext W w' := fun W h h' => as_bool (s_l17Middle _ _ _ _ pa pb _ h h' ha0 hb0 hal hbl HAO.out HBO.out) hA2
        have HC := Lib.hid hc
        have HF : Hid (false = apartS pa pb) := Lib.hid (by simp [apartS, hA2])
        clear hc hA2
        go_wp2_with fail
        refine (HC.out _ ((hA.ext hx12).ext (by (repeat (first | with_reducible exact Ext.refl _ | with_reducible assumption | ((with_reducible apply Src.ext); with_reducible assumption) | with_reducible refine Ext.alloc ?_ _ | with_reducible refine Ext.drew ?_ | with_reducible refine Ext.drewN ?_ _ | ((with_reducible refine Ext.setCell' ?_ ?_ _); solve | omega | simp | (simp; omega)) | (with_reducible refine Ext.trans ?_ (by with_reducible assumption)))))) ((hB.ext hx12).ext (by (repeat (first | with_reducible exact Ext.refl _ | with_reducible assumption | ((with_reducible apply Src.ext); with_reducible assumption) | with_reducible refine Ext.alloc ?_ _ | with_reducible refine Ext.drew ?_ | with_reducible refine Ext.drewN ?_ _ | ((with_reducible refine Ext.setCell' ?_ ?_ _); solve | omega | simp | (simp; omega)) | (with_reducible refine Ext.trans ?_ (by with_reducible assumption))))))).mono ?_
        rintro e w4 ⟨rfl, hx4⟩
        go_wp2
        go_ret
        exact ⟨ret_bool HF.out, by (repeat (first | with_reducible exact Ext.refl _ | with_reducible assumption | ((with_reducible apply Src.ext); with_reducible assumption) | with_reducible refine Ext.alloc ?_ _ | with_reducible refine Ext.drew ?_ | with_reducible refine Ext.drewN ?_ _ | ((with_reducible refine Ext.setCell' ?_ ?_ _); solve | omega | simp | (simp; omega)) | (with_reducible refine Ext.trans ?_ (by with_reducible assumption))))⟩
      · have hA2' : (edL pa).any (midE pb) = false := Bool.eq_false_iff.2 hA2
        have hc : ∀ W, SlAt W 2 encP A pa → SlAt W 2 encP B pb → Calls Tryz.prog 190 #[.slice A pa.length ca, .slice B pb.length cb] W fun e w' => e = .returned (.bool false) ∧ Ext W w' := fun W h h' => as_bool (s_l17Middle _ _ _ _ pa pb _ h h' ha0 hb0 hal hbl HAO.out HBO.out) hA2'
        have HC := Lib.hid hc
        have HF : Hid ((!(edL pb).any (midE pa)) = apartS pa pb) := Lib.hid (by simp [apartS, hA2', ← HALL.out])
        clear hc hA2 hA2'
        go_wp2_with fail
        refine (HC.out _ ((hA.ext hx12).ext (by (repeat (first | with_reducible exact Ext.refl _ | with_reducible assumption | ((with_reducible apply Src.ext); with_reducible assumption) | with_reducible refine Ext.alloc ?_ _ | with_reducible refine Ext.drew ?_ | with_reducible refine Ext.drewN ?_ _ | ((with_reducible refine Ext.setCell' ?_ ?_ _); solve | omega | simp | (simp; omega)) | (with_reducible refine Ext.trans ?_ (by with_reducible assumption)))))) ((hB.ext hx12).ext (by (repeat (first | with_reducible exact Ext.refl _ | with_reducible assumption | ((with_reducible apply Src.ext); with_reducible assumption) | with_reducible refine Ext.alloc ?_ _ | with_reducible refine Ext.drew ?_ | with_reducible refine Ext.drewN ?_ _ | ((with_reducible refine Ext.setCell' ?_ ?_ _); solve | omega | simp | (simp; omega)) | (with_reducible refine Ext.trans ?_ (by with_reducible assumption))))))).mono ?_
        rintro e w4 ⟨rfl, hx4⟩
        go_wp2_with fail
        refine (s_l17Middle _ _ _ _ pb pa _ ((hB.ext hx12).ext (by (repeat (first | with_reducible exact Ext.refl _ | with_reducible assumption | ((with_reducible apply Src.ext); with_reducible assumption) | with_reducible refine Ext.alloc ?_ _ | with_reducible refine Ext.drew ?_ | with_reducible refine Ext.drewN ?_ _ | ((with_reducible refine Ext.setCell' ?_ ?_ _); solve | omega | simp | (simp; omega)) | (with_reducible refine Ext.trans ?_ (by with_reducible assumption)))))) ((hA.ext hx12).ext (by (repeat (first | with_reducible exact Ext.refl _ | with_reducible assumption | ((with_reducible apply Src.ext); with_reducible assumption) | with_reducible refine Ext.alloc ?_ _ | with_reducible refine Ext.drew ?_ | with_reducible refine Ext.drewN ?_ _ | ((with_reducible refine Ext.setCell' ?_ ?_ _); solve | omega | simp | (simp; omega)) | (with_reducible refine Ext.trans ?_ (by with_reducible assumption)))))) hb0 ha0 hbl hal HBO.out HAO.out).mono ?_
        rintro e w5 ⟨rfl, hx5⟩
        generalize (edL pb).any (midE pa) = bm at *
        go_wp2
        go_ret
        exact ⟨ret_bool HF.out, by (repeat (first | with_reducible exact Ext.refl _ | with_reducible assumption | ((with_reducible apply Src.ext); with_reducible assumption) | with_reducible refine Ext.alloc ?_ _ | with_reducible refine Ext.drew ?_ | with_reducible refine Ext.drewN ?_ _ | ((with_reducible refine Ext.setCell' ?_ ?_ _); solve | omega | simp | (simp; omega)) | (with_reducible refine Ext.trans ?_ (by with_reducible assumption))))⟩

end Go.Proofs.YtdbheipjbjcikaaGreatDoor
