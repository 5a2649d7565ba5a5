/- The law of maps, walked over the translation. -/
import Derived.Test.YteppjdoggjcdoaaFM
import Derived.Deep.RegionHeld3
import Derived.Deep.DeepCutAuto
import Derived.RegionTactic
import Derived.BigRegion
import Derived.WalkLawsBesides
import Derived.WalkSpells
import Derived.Lib.MinMax
import Derived.Outline
namespace Go.Proofs.Yteppjdoggjcdoaa
open Go.RowKit
attribute [local go_sem] ExtOf.cell ExtOf.frozen


theorem i_NbN (A : Option Addr) (n c : Nat) (rs : List Rg) (a : Int) (w : World) (h : SlAt w 1 encR A rs) (hr : Rings w rs) (hn : n = rs.length) (hl : n ≤ 1048576) (hc : n ≤ c) :
    Calls Try.prog 49 #[.slice A n c, .int .i64 a] w fun e w' => ∃ v, e = .returned (.tuple #[v, .int .i64 (nbC (psOf rs) a)]) ∧ OwI w' w.heap.size v (nbP (psOf rs) a) ∧ Ext w w' := by
  subst hn; exact i_NeighboursOf A c rs a w h hr hl hc
theorem i_TaN (A : Option Addr) (n c : Nat) (ps : List (Int × Int)) (w : World) (h : SlAt w 2 encP A ps) (hn : n = ps.length) (hl : n ≤ 1048576) (hc : n ≤ c) (hr : ringB ps = true) :
    Calls Try.prog 11 #[.slice A n c] w fun e w' => e = .returned (.tuple #[.int .i64 (areaA ps), .int .i64 0]) ∧ Ext w w' := by
  subst hn
  have := i_TwiceArea A c ps w h hl hc
  rwa [ringC_yes hr, show ifI (ringB ps) (areaA ps) = areaA ps by simp [ifI, hr]] at this
set_option maxRecDepth 20000 in
set_option maxHeartbeats 51200000 in
theorem fnMaps_walk (A : Option Addr) (c : Nat) (bs : List Int) (w : World) (h : SlAt w 1 encB A bs) (hb : ∀ b ∈ bs, 0 ≤ b ∧ b ≤ 255) :
    Calls Try.prog 6 #[.slice A bs.length c] w fun e w' => e = .returned (.bool true) ∧ Ext w w' := by
  have HB := Lib.hid hb
  clear hb
  by_cases hl : bs.length ≤ 4096
  · have hbg : ∀ W, Calls Try.prog 7 #[.slice A bs.length c] W fun e w' => e = .returned (.bool false) ∧ W = w' := fun W => by
      have := l_bigM A c bs.length W
      rwa [decide_eq_false (by omega)] at this
    have HG := Lib.hid hbg
    have HL := Lib.hid hl
    clear hbg hl
    go_enter Try.func6, Try.ntmps6
    (go_wp2_with fail; refine (HG.out _).mono ?_; rintro e w' ⟨rfl, rfl⟩)
    go_wp2_with fail
    refine (s_DrawMergeAreas _ _ bs _ (h.ext (by (repeat (first | with_reducible exact Ext.refl _ | with_reducible assumption | ((with_reducible apply Src.ext); with_reducible assumption) | with_reducible refine Ext.alloc ?_ _ | with_reducible refine Ext.drew ?_ | with_reducible refine Ext.drewN ?_ _ | ((with_reducible refine Ext.setCell' ?_ ?_ _); solve | omega | simp | (simp; omega)) | (with_reducible refine Ext.trans ?_ (by with_reducible assumption)))))) HB.out HL.out).mono ?_
    rintro e w1 ⟨A1, c1, rs, a, b, rfl, hS1, hR1, hc1, hl1, hx1⟩
    have hrl : rs.length ≤ 1048576 := by omega
    have HMI := Lib.hid fun W (hW : Ext w1 W) => i_MergeAreas A1 c1 rs a b W (hS1.ext hW) (hR1.ext hW) hrl hc1
    have HMS := Lib.hid fun W (hW : Ext w1 W) => s_MergeAreas A1 c1 rs a b W (hS1.ext hW) (hR1.ext hW) hrl
    have HSI := Lib.hid fun W (hW : Ext w1 W) => i_SharedEdges A1 c1 rs a b W (hS1.ext hW) (hR1.ext hW) hrl hc1
    have HSS := Lib.hid fun W (hW : Ext w1 W) => s_SharedEdges A1 c1 rs a b W (hS1.ext hW) (hR1.ext hW) hrl
    have HSB := Lib.hid fun W (hW : Ext w1 W) => i_SharedEdges A1 c1 rs b a W (hS1.ext hW) (hR1.ext hW) hrl hc1
    have HSEB : Hid (abC (psOf rs) a b = 0 → abC (psOf rs) b a = 0 ∧ (seP (psOf rs) b a).length = (seP (psOf rs) a b).length) := Lib.hid se_back
    have HMA : Hid (maC (psOf rs) a b = 0 → abC (psOf rs) a b = 0 ∧ ringB (maP (psOf rs) a b) = true ∧ areaA (maP (psOf rs) a b) = areaA ((psOf rs).getD a.toNat []) + areaA ((psOf rs).getD b.toNat [])) := Lib.hid ma_area
    have HAB : Hid (abC (psOf rs) a b = 0 → mapB (psOf rs) = true ∧ (0 ≤ a ∧ a < rs.length) ∧ 0 ≤ b ∧ b < rs.length) := Lib.hid fun e => by
      obtain ⟨hm, hin⟩ := arC_zero.1 e
      have q1 := hin a (by simp)
      have q2 := hin b (by simp)
      rw [psOf_len] at q1 q2
      exact ⟨hm, q1, q2⟩
    have HLM : Hid ((maP (psOf rs) a b).length ≤ 72) := Lib.hid (maP_len _ _ _)
    have HLS : Hid ((seP (psOf rs) a b).length ≤ 72) := Lib.hid (seP_len _ _ _)
    have HS1 := Lib.hid hS1
    have HR1 := Lib.hid hR1
    have HC1 := Lib.hid hc1
    have HX1 := Lib.hid hx1
    obtain ⟨n1, hn1⟩ : ∃ n1, n1 = rs.length := ⟨_, rfl⟩
    obtain ⟨mc, hmc⟩ : ∃ mc, mc = maC (psOf rs) a b := ⟨_, rfl⟩
    obtain ⟨mp, hmp⟩ : ∃ mp, mp = maP (psOf rs) a b := ⟨_, rfl⟩
    obtain ⟨sc, hsc⟩ : ∃ sc, sc = abC (psOf rs) a b := ⟨_, rfl⟩
    obtain ⟨se, hse⟩ : ∃ se, se = seP (psOf rs) a b := ⟨_, rfl⟩
    obtain ⟨ms, hms⟩ : ∃ ms, ms = mp.length := ⟨_, rfl⟩
    obtain ⟨ls, hls⟩ : ∃ ls, ls = se.length := ⟨_, rfl⟩
    rw [← hmc, ← hmp] at HMI HMS
    rw [← hmc, ← hmp, ← hsc] at HMA
    rw [← hsc, ← hse] at HSI HSS HSEB
    rw [← hsc, ← hn1] at HAB
    rw [← hmp] at HLM
    rw [← hse] at HLS
    rw [← hms] at HLM
    rw [← hls] at HLS HSEB
    rw [← hn1] at HMI HMS HSI HSS HSB HC1 hrl ⊢
    have HN1 := Lib.hid hn1
    have HMSL := Lib.hid hms
    have HLSL := Lib.hid hls
    clear hn1 hmc hmp hsc hse hms hls hS1 hR1 hc1 hl1
    go_wp2_with fail
    refine (HMI.out _ (by (repeat (first | with_reducible exact Ext.refl _ | with_reducible assumption | ((with_reducible apply Src.ext); with_reducible assumption) | with_reducible refine Ext.alloc ?_ _ | with_reducible refine Ext.drew ?_ | with_reducible refine Ext.drewN ?_ _ | ((with_reducible refine Ext.setCell' ?_ ?_ _); solve | omega | simp | (simp; omega)) | (with_reducible refine Ext.trans ?_ (by with_reducible assumption)))))).mono ?_
    rintro e w2 ⟨v2, rfl, hO2, hx2⟩
    obtain ⟨A2, c2, rfl, hS2, hc2, -, -⟩ := hO2.sl len_encP
    rw [← HMSL.out] at hc2 ⊢
    have HS2 := Lib.hid hS2
    have HC2 := Lib.hid hc2
    clear hO2 hS2 hc2
    go_wp2_with fail
    refine (HMS.out _ (by (repeat (first | with_reducible exact Ext.refl _ | with_reducible assumption | ((with_reducible apply Src.ext); with_reducible assumption) | with_reducible refine Ext.alloc ?_ _ | with_reducible refine Ext.drew ?_ | with_reducible refine Ext.drewN ?_ _ | ((with_reducible refine Ext.setCell' ?_ ?_ _); solve | omega | simp | (simp; omega)) | (with_reducible refine Ext.trans ?_ (by with_reducible assumption)))))).mono ?_
    rintro e w3 ⟨v3, rfl, hO3, hx3⟩
    obtain ⟨A3, c3, rfl, hS3, -, -, -⟩ := hO3.sl len_encP
    rw [← HMSL.out]
    have HS3 := Lib.hid hS3
    clear hO3 hS3
    go_wp2_with fail
    refine (HSI.out _ (by (repeat (first | with_reducible exact Ext.refl _ | with_reducible assumption | ((with_reducible apply Src.ext); with_reducible assumption) | with_reducible refine Ext.alloc ?_ _ | with_reducible refine Ext.drew ?_ | with_reducible refine Ext.drewN ?_ _ | ((with_reducible refine Ext.setCell' ?_ ?_ _); solve | omega | simp | (simp; omega)) | (with_reducible refine Ext.trans ?_ (by with_reducible assumption)))))).mono ?_
    rintro e w4 ⟨v4, rfl, hO4, hx4⟩
    obtain ⟨A4, c4, rfl, hS4, -, -, -⟩ := hO4.sl len_encE
    rw [← HLSL.out]
    have HS4 := Lib.hid hS4
    clear hO4 hS4
    go_wp2_with fail
    refine (HSS.out _ (by (repeat (first | with_reducible exact Ext.refl _ | with_reducible assumption | ((with_reducible apply Src.ext); with_reducible assumption) | with_reducible refine Ext.alloc ?_ _ | with_reducible refine Ext.drew ?_ | with_reducible refine Ext.drewN ?_ _ | ((with_reducible refine Ext.setCell' ?_ ?_ _); solve | omega | simp | (simp; omega)) | (with_reducible refine Ext.trans ?_ (by with_reducible assumption)))))).mono ?_
    rintro e w5 ⟨v5, rfl, hO5, hx5⟩
    obtain ⟨A5, c5, rfl, hS5, -, -, -⟩ := hO5.sl len_encE
    rw [← HLSL.out]
    have HS5 := Lib.hid hS5
    clear hO5 hS5
    go_wp2_with fail
    refine (s_DrawNeighboursOf _ _ bs _ (h.ext (by (repeat (first | with_reducible exact Ext.refl _ | with_reducible assumption | ((with_reducible apply Src.ext); with_reducible assumption) | with_reducible refine Ext.alloc ?_ _ | with_reducible refine Ext.drew ?_ | with_reducible refine Ext.drewN ?_ _ | ((with_reducible refine Ext.setCell' ?_ ?_ _); solve | omega | simp | (simp; omega)) | (with_reducible refine Ext.trans ?_ (by with_reducible assumption)))))) HB.out HL.out).mono ?_
    rintro e w6 ⟨A6, c6, qs, cc, rfl, hS6, hR6, hc6, hl6, hx6⟩
    have hql : qs.length ≤ 1048576 := by omega
    have HNI := Lib.hid fun W (hW : Ext w6 W) => i_NeighboursOf A6 c6 qs cc W (hS6.ext hW) (hR6.ext hW) hql hc6
    have HNS := Lib.hid fun W (hW : Ext w6 W) => s_NeighboursOf A6 c6 qs cc W (hS6.ext hW) (hR6.ext hW) hql
    have HTI := Lib.hid fun W (hW : Ext w6 W) => i_TotalArea A6 c6 qs W (hS6.ext hW) (hR6.ext hW) hql hc6
    have HTS := Lib.hid fun W (hW : Ext w6 W) => s_TotalArea A6 c6 qs W (hS6.ext hW) (hR6.ext hW) hql
    have HIM := Lib.hid fun W (hW : Ext w6 W) => i_IsMap A6 c6 qs W (hS6.ext hW) (hR6.ext hW) hql hc6
    have HBK : Hid (nbC (psOf qs) cc = 0 → ∀ k, k < (nbP (psOf qs) cc).length → ∀ W, Ext w6 W → Calls Try.prog 49 #[.slice A6 qs.length c6, .int .i64 ((nbP (psOf qs) cc).getD k 0)] W fun e w' => ∃ v xs, e = .returned (.tuple #[v, .int .i64 0]) ∧ OwI w' W.heap.size v xs ∧ xs.length ≤ 72 ∧ cc ∈ xs ∧ Ext W w') := Lib.hid fun hz k hk W hW => by
      obtain ⟨q1, q2⟩ := nb_back hz hk
      have := i_NeighboursOf A6 c6 qs ((nbP (psOf qs) cc).getD k 0) W (hS6.ext hW) (hR6.ext hW) hql hc6
      rw [q1] at this
      exact this.mono fun e w' ⟨v, h1, h2, h3⟩ => ⟨v, _, h1, h2, nbP_len _ _, q2, h3⟩
    have HLN : Hid ((nbP (psOf qs) cc).length ≤ 72) := Lib.hid (nbP_len _ _)
    have HTC : Hid ((mapC (psOf qs) == 0) = mapB (psOf qs)) := Lib.hid (by
      cases hm : mapB (psOf qs) with
      | true => rw [mapC_yes hm]; rfl
      | false => rw [mapC_no hm]; rfl)
    obtain ⟨nq, hnq⟩ : ∃ nq, nq = qs.length := ⟨_, rfl⟩
    obtain ⟨nc, hnc⟩ : ∃ nc, nc = nbC (psOf qs) cc := ⟨_, rfl⟩
    obtain ⟨nb, hnb⟩ : ∃ nb, nb = nbP (psOf qs) cc := ⟨_, rfl⟩
    obtain ⟨nl, hnl⟩ : ∃ nl, nl = nb.length := ⟨_, rfl⟩
    rw [← hnc, ← hnb] at HNI HNS HBK
    rw [← hnb] at HLN
    rw [← hnl] at HLN HBK
    rw [← hnq] at HNI HNS HTI HTS HIM HBK ⊢
    generalize mapC (psOf qs) = tc at *
    generalize totA (psOf qs) = tt at *
    generalize mapB (psOf qs) = mb at *
    have HNL := Lib.hid hnl
    clear hnq hnc hnb hnl hS6 hR6 hc6 hl6 hql
    go_wp2_with fail
    refine (HNI.out _ (by (repeat (first | with_reducible exact Ext.refl _ | with_reducible assumption | ((with_reducible apply Src.ext); with_reducible assumption) | with_reducible refine Ext.alloc ?_ _ | with_reducible refine Ext.drew ?_ | with_reducible refine Ext.drewN ?_ _ | ((with_reducible refine Ext.setCell' ?_ ?_ _); solve | omega | simp | (simp; omega)) | (with_reducible refine Ext.trans ?_ (by with_reducible assumption)))))).mono ?_
    rintro e w7 ⟨v7, rfl, hO7, hx7⟩
    obtain ⟨A7, c7, rfl, hS7, -, -, -⟩ := hO7.sl len_encI
    rw [← HNL.out]
    have HS7 := Lib.hid hS7
    clear hO7 hS7
    go_wp2_with fail
    refine (HNS.out _ (by (repeat (first | with_reducible exact Ext.refl _ | with_reducible assumption | ((with_reducible apply Src.ext); with_reducible assumption) | with_reducible refine Ext.alloc ?_ _ | with_reducible refine Ext.drew ?_ | with_reducible refine Ext.drewN ?_ _ | ((with_reducible refine Ext.setCell' ?_ ?_ _); solve | omega | simp | (simp; omega)) | (with_reducible refine Ext.trans ?_ (by with_reducible assumption)))))).mono ?_
    rintro e w8 ⟨v8, rfl, hO8, hx8⟩
    obtain ⟨A8, c8, rfl, hS8, -, -, -⟩ := hO8.sl len_encI
    rw [← HNL.out]
    have HS8 := Lib.hid hS8
    clear hO8 hS8
    (go_wp2_with fail; refine (HTI.out _ (by (repeat (first | with_reducible exact Ext.refl _ | with_reducible assumption | ((with_reducible apply Src.ext); with_reducible assumption) | with_reducible refine Ext.alloc ?_ _ | with_reducible refine Ext.drew ?_ | with_reducible refine Ext.drewN ?_ _ | ((with_reducible refine Ext.setCell' ?_ ?_ _); solve | omega | simp | (simp; omega)) | (with_reducible refine Ext.trans ?_ (by with_reducible assumption)))))).mono ?_; rintro e w9 ⟨rfl, hx9⟩; obtain ⟨hc9, hf9⟩ := hx9.rules; have hs9 := hx9.size; (try simp at hs9))
    (go_wp2_with fail; refine (HTS.out _ (by (repeat (first | with_reducible exact Ext.refl _ | with_reducible assumption | ((with_reducible apply Src.ext); with_reducible assumption) | with_reducible refine Ext.alloc ?_ _ | with_reducible refine Ext.drew ?_ | with_reducible refine Ext.drewN ?_ _ | ((with_reducible refine Ext.setCell' ?_ ?_ _); solve | omega | simp | (simp; omega)) | (with_reducible refine Ext.trans ?_ (by with_reducible assumption)))))).mono ?_; rintro e w10 ⟨rfl, hx10⟩; obtain ⟨hc10, hf10⟩ := hx10.rules; have hs10 := hx10.size; (try simp at hs10))
    have e1 : (mc != mc) = false := by simp
    have e2 : (sc != sc) = false := by simp
    have e3 : (nc != nc) = false := by simp
    have e4 : (tc != tc) = false := by simp
    have e5 : (tt != tt) = false := by simp
    have e6 : (tc == 0) = mb := HTC.out
    have e7 : (mb != mb) = false := by simp
    have hml : ms ≤ 1048576 := by have := HLM.out; omega
    have hsl : ls ≤ 1048576 := by have := HLS.out; omega
    have hnl : nl ≤ 1048576 := by have := HLN.out; omega
    clear HMI HMS HSI HSS HNI HNS HTI HTS
    (go_wp2_with fail; refine (l_likeP A2 A3 ms c2 c3 mp _ (HS2.out.ext (by (repeat (first | with_reducible exact Ext.refl _ | with_reducible assumption | ((with_reducible apply Src.ext); with_reducible assumption) | with_reducible refine Ext.alloc ?_ _ | with_reducible refine Ext.drew ?_ | with_reducible refine Ext.drewN ?_ _ | ((with_reducible refine Ext.setCell' ?_ ?_ _); solve | omega | simp | (simp; omega)) | (with_reducible refine Ext.trans ?_ (by with_reducible assumption)))))) (HS3.out.ext (by (repeat (first | with_reducible exact Ext.refl _ | with_reducible assumption | ((with_reducible apply Src.ext); with_reducible assumption) | with_reducible refine Ext.alloc ?_ _ | with_reducible refine Ext.drew ?_ | with_reducible refine Ext.drewN ?_ _ | ((with_reducible refine Ext.setCell' ?_ ?_ _); solve | omega | simp | (simp; omega)) | (with_reducible refine Ext.trans ?_ (by with_reducible assumption)))))) HMSL.out hml).mono ?_; rintro e w11 ⟨rfl, hx11⟩; obtain ⟨hc11, hf11⟩ := hx11.rules; have hs11 := hx11.size; (try simp at hs11))
    (go_wp2_with fail; refine (l_likeE A4 A5 ls c4 c5 se _ (HS4.out.ext (by (repeat (first | with_reducible exact Ext.refl _ | with_reducible assumption | ((with_reducible apply Src.ext); with_reducible assumption) | with_reducible refine Ext.alloc ?_ _ | with_reducible refine Ext.drew ?_ | with_reducible refine Ext.drewN ?_ _ | ((with_reducible refine Ext.setCell' ?_ ?_ _); solve | omega | simp | (simp; omega)) | (with_reducible refine Ext.trans ?_ (by with_reducible assumption)))))) (HS5.out.ext (by (repeat (first | with_reducible exact Ext.refl _ | with_reducible assumption | ((with_reducible apply Src.ext); with_reducible assumption) | with_reducible refine Ext.alloc ?_ _ | with_reducible refine Ext.drew ?_ | with_reducible refine Ext.drewN ?_ _ | ((with_reducible refine Ext.setCell' ?_ ?_ _); solve | omega | simp | (simp; omega)) | (with_reducible refine Ext.trans ?_ (by with_reducible assumption)))))) HLSL.out hsl).mono ?_; rintro e w12 ⟨rfl, hx12⟩; obtain ⟨hc12, hf12⟩ := hx12.rules; have hs12 := hx12.size; (try simp at hs12))
    (go_wp2_with fail; refine (l_likeI A7 A8 nl c7 c8 nb _ (HS7.out.ext (by (repeat (first | with_reducible exact Ext.refl _ | with_reducible assumption | ((with_reducible apply Src.ext); with_reducible assumption) | with_reducible refine Ext.alloc ?_ _ | with_reducible refine Ext.drew ?_ | with_reducible refine Ext.drewN ?_ _ | ((with_reducible refine Ext.setCell' ?_ ?_ _); solve | omega | simp | (simp; omega)) | (with_reducible refine Ext.trans ?_ (by with_reducible assumption)))))) (HS8.out.ext (by (repeat (first | with_reducible exact Ext.refl _ | with_reducible assumption | ((with_reducible apply Src.ext); with_reducible assumption) | with_reducible refine Ext.alloc ?_ _ | with_reducible refine Ext.drew ?_ | with_reducible refine Ext.drewN ?_ _ | ((with_reducible refine Ext.setCell' ?_ ?_ _); solve | omega | simp | (simp; omega)) | (with_reducible refine Ext.trans ?_ (by with_reducible assumption)))))) HNL.out hnl).mono ?_; rintro e w13 ⟨rfl, hx13⟩; obtain ⟨hc13, hf13⟩ := hx13.rules; have hs13 := hx13.size; (try simp at hs13))
    (go_wp2_with fail; refine (HIM.out _ (by (repeat (first | with_reducible exact Ext.refl _ | with_reducible assumption | ((with_reducible apply Src.ext); with_reducible assumption) | with_reducible refine Ext.alloc ?_ _ | with_reducible refine Ext.drew ?_ | with_reducible refine Ext.drewN ?_ _ | ((with_reducible refine Ext.setCell' ?_ ?_ _); solve | omega | simp | (simp; omega)) | (with_reducible refine Ext.trans ?_ (by with_reducible assumption)))))).mono ?_; rintro e w14 ⟨rfl, hx14⟩; obtain ⟨hc14, hf14⟩ := hx14.rules; have hs14 := hx14.size; (try simp at hs14))
    have HX714 : Hid (Ext w7 w14) := Lib.hid (by (repeat (first | with_reducible exact Ext.refl _ | with_reducible assumption | ((with_reducible apply Src.ext); with_reducible assumption) | with_reducible refine Ext.alloc ?_ _ | with_reducible refine Ext.drew ?_ | with_reducible refine Ext.drewN ?_ _ | ((with_reducible refine Ext.setCell' ?_ ?_ _); solve | omega | simp | (simp; omega)) | (with_reducible refine Ext.trans ?_ (by with_reducible assumption)))))
    have HX614 : Hid (Ext w6 w14) := Lib.hid (hx7.trans HX714.out)
    have HX16 : Hid (Ext w1 w6) := Lib.hid (by (repeat (first | with_reducible exact Ext.refl _ | with_reducible assumption | ((with_reducible apply Src.ext); with_reducible assumption) | with_reducible refine Ext.alloc ?_ _ | with_reducible refine Ext.drew ?_ | with_reducible refine Ext.drewN ?_ _ | ((with_reducible refine Ext.setCell' ?_ ?_ _); solve | omega | simp | (simp; omega)) | (with_reducible refine Ext.trans ?_ (by with_reducible assumption)))))
    have HX26 : Hid (Ext w2 w6) := Lib.hid (by (repeat (first | with_reducible exact Ext.refl _ | with_reducible assumption | ((with_reducible apply Src.ext); with_reducible assumption) | with_reducible refine Ext.alloc ?_ _ | with_reducible refine Ext.drew ?_ | with_reducible refine Ext.drewN ?_ _ | ((with_reducible refine Ext.setCell' ?_ ?_ _); solve | omega | simp | (simp; omega)) | (with_reducible refine Ext.trans ?_ (by with_reducible assumption)))))
    clear HIM
    go_wp2
    clear e1 e2 e3 e4 e5 e6 e7 hx2 hx3 hx4 hx5 hx6 hx7 hx8 hx9 hx10 hx11 hx12 hx13 hx14 hc9 hf9 hc10 hf10 hc11 hf11 hc12 hf12 hc13 hf13 hc14 hf14 HS3 HS4 HS5 HS8
    go_loopw [24] (fun i wr => ∃ k : Nat, k ≤ nl ∧ i = .int .i64 k ∧ Ext w14 wr) (fun i _ => nl - (intOf i).toNat)
    case atStart => exact ⟨0, by omega, rfl, by (repeat (first | with_reducible exact Ext.refl _ | with_reducible assumption | ((with_reducible apply Src.ext); with_reducible assumption) | with_reducible refine Ext.alloc ?_ _ | with_reducible refine Ext.drew ?_ | with_reducible refine Ext.drewN ?_ _ | ((with_reducible refine Ext.setCell' ?_ ?_ _); solve | omega | simp | (simp; omega)) | (with_reducible refine Ext.trans ?_ (by with_reducible assumption))))⟩
    case round =>
      obtain ⟨k, hk, rfl, hxr⟩ := hrel
      obtain ⟨w20, rfl⟩ : ∃ x, x = wr := ⟨wr, rfl⟩
      by_cases hgo : nc = 0 ∧ k < nl
      · obtain ⟨hz, hlt⟩ := hgo
        have hzb : (nc == 0) = true := by rw [beq_iff_eq]; exact hz
        have HBK1 := Lib.hid (HBK.out hz k hlt)
        obtain ⟨b7, off7, hA7, hb7, d7⟩ := (HS7.out.ext (HX714.out.trans hxr)).it (k := k) (by rw [← HNL.out]; exact hlt)
        subst hA7
        obtain ⟨y, hy⟩ : ∃ y, y = nb.getD k 0 := ⟨_, rfl⟩
        rw [← hy] at d7 HBK1
        clear hz hy HBK
        go_wp2_with fail
        refine (HBK1.out _ (HX614.out.trans (by (repeat (first | with_reducible exact Ext.refl _ | with_reducible assumption | ((with_reducible apply Src.ext); with_reducible assumption) | with_reducible refine Ext.alloc ?_ _ | with_reducible refine Ext.drew ?_ | with_reducible refine Ext.drewN ?_ _ | ((with_reducible refine Ext.setCell' ?_ ?_ _); solve | omega | simp | (simp; omega)) | (with_reducible refine Ext.trans ?_ (by with_reducible assumption))))))).mono ?_
        rintro e w21 ⟨v21, xs, rfl, hO21, hxl, hxm, hx21⟩
        obtain ⟨A21, c21, hv21, hS21, -, -, -⟩ := hO21.sl len_encI
        obtain ⟨m21, hm21⟩ : ∃ m21, m21 = xs.length := ⟨_, rfl⟩
        rw [← hm21] at hv21 hxl
        subst hv21
        have HM21 := Lib.hid hm21
        have HXM := Lib.hid hxm
        have HS21 := Lib.hid hS21
        clear hm21 hxm hO21 hS21
        go_wp2_with fail
        refine (l_hasInt A21 m21 c21 xs cc _ (HS21.out.ext (by (repeat (first | with_reducible exact Ext.refl _ | with_reducible assumption | ((with_reducible apply Src.ext); with_reducible assumption) | with_reducible refine Ext.alloc ?_ _ | with_reducible refine Ext.drew ?_ | with_reducible refine Ext.drewN ?_ _ | ((with_reducible refine Ext.setCell' ?_ ?_ _); solve | omega | simp | (simp; omega)) | (with_reducible refine Ext.trans ?_ (by with_reducible assumption)))))) HM21.out (by omega) HXM.out).mono ?_
        rintro e w22 ⟨rfl, hx22⟩
        go_wp2
        go_roundw
        case rel => exact ⟨k + 1, by omega, by go_num, by (repeat (first | with_reducible exact Ext.refl _ | with_reducible assumption | ((with_reducible apply Src.ext); with_reducible assumption) | with_reducible refine Ext.alloc ?_ _ | with_reducible refine Ext.drew ?_ | with_reducible refine Ext.drewN ?_ _ | ((with_reducible refine Ext.setCell' ?_ ?_ _); solve | omega | simp | (simp; omega)) | (with_reducible refine Ext.trans ?_ (by with_reducible assumption))))⟩
        case measure => simp [intOf]; omega
      · have HX20 : Hid (Ext w6 w20) := Lib.hid (HX614.out.trans hxr)
        clear hxr HBK HX614 HX714 HS7
        by_cases hz : nc = 0
        · have hzb : (nc == 0) = true := by rw [beq_iff_eq]; exact hz
          have hkl : k = nl := by
            rcases Nat.lt_or_ge k nl with q | q
            · exact absurd ⟨hz, q⟩ hgo
            · omega
          clear hz hgo
          obtain rfl := hkl
          go_upto_region 21 with (fail)
          by_cases hs0 : sc = 0
          · have hsb : (sc == 0) = true := by rw [beq_iff_eq]; exact hs0
            obtain ⟨hb0, hbl⟩ := HSEB.out hs0
            rw [hb0] at HSB
            have HBL := Lib.hid hbl
            clear hs0 hb0 hbl HSEB
            go_wp2_with fail
            refine (HSB.out _ (HX16.out.trans (HX20.out.trans (by (repeat (first | with_reducible exact Ext.refl _ | with_reducible assumption | ((with_reducible apply Src.ext); with_reducible assumption) | with_reducible refine Ext.alloc ?_ _ | with_reducible refine Ext.drew ?_ | with_reducible refine Ext.drewN ?_ _ | ((with_reducible refine Ext.setCell' ?_ ?_ _); solve | omega | simp | (simp; omega)) | (with_reducible refine Ext.trans ?_ (by with_reducible assumption)))))))).mono ?_
            rintro e w23 ⟨v23, rfl, hO23, hx23⟩
            obtain ⟨A23, c23, rfl, -, -, -, -⟩ := hO23.sl len_encE
            rw [HBL.out]
            have hll : ((ls : Int) != (ls : Int)) = false := by simp
            clear hO23 HSB
            by_cases hm0 : mc = 0
            · have hmb : (mc != 0) = false := by rw [bne_eq_false_iff_eq]; exact hm0
              obtain ⟨q1, q2, q3⟩ := HMA.out hm0
              obtain ⟨hmap, ⟨a1, a2⟩, b1, b2⟩ := HAB.out q1
              obtain ⟨ja, rfl⟩ : ∃ j : Nat, a = (j : Int) := ⟨a.toNat, by omega⟩
              obtain ⟨jb, rfl⟩ : ∃ j : Nat, b = (j : Int) := ⟨b.toNat, by omega⟩
              have hja : ja < rs.length := by rw [← HN1.out]; omega
              have hjb : jb < rs.length := by rw [← HN1.out]; omega
              have ha3 : (psOf rs).getD ja [] = (rs.getD ja rgD).2.2 := psOf_at hja
              have hb3 : (psOf rs).getD jb [] = (rs.getD jb rgD).2.2 := psOf_at hjb
              have hra := map_ring hmap (k := ja) (by rw [psOf_len]; exact hja)
              have hrb := map_ring hmap (k := jb) (by rw [psOf_len]; exact hjb)
              rw [ha3] at hra
              rw [hb3] at hrb
              rw [Int.toNat_natCast, Int.toNat_natCast, ha3, hb3] at q3
              have hX1W : Ext w1 w23 := HX16.out.trans (HX20.out.trans (by (repeat (first | with_reducible exact Ext.refl _ | with_reducible assumption | ((with_reducible apply Src.ext); with_reducible assumption) | with_reducible refine Ext.alloc ?_ _ | with_reducible refine Ext.drew ?_ | with_reducible refine Ext.drewN ?_ _ | ((with_reducible refine Ext.setCell' ?_ ?_ _); solve | omega | simp | (simp; omega)) | (with_reducible refine Ext.trans ?_ (by with_reducible assumption))))))
              obtain ⟨b1', o1, hA1, hb1', d1⟩ := (HS1.out.ext hX1W).rg hja
              subst hA1
              have d2 := SlAt.rg' (HS1.out.ext hX1W) hjb
              have hrga := (HR1.out.ext hX1W) _ (rg_mem hja)
              have hrgb := (HR1.out.ext hX1W) _ (rg_mem hjb)
              obtain ⟨ra, hrae⟩ : ∃ r, r = rs.getD ja rgD := ⟨_, rfl⟩
              obtain ⟨rb, hrbe⟩ : ∃ r, r = rs.getD jb rgD := ⟨_, rfl⟩
              rw [← hrae] at d1 hrga hra q3
              rw [← hrbe] at d2 hrgb hrb q3
              obtain ⟨la, hla⟩ : ∃ l, l = ra.2.2.length := ⟨_, rfl⟩
              obtain ⟨lb, hlb⟩ : ∃ l, l = rb.2.2.length := ⟨_, rfl⟩
              rw [← hla] at d1
              rw [← hlb] at d2
              have HTA := Lib.hid fun W (hW : Ext w23 W) => i_TaN ra.1 la ra.2.1 ra.2.2 W (hrga.1.ext hW) hla (by rw [hla]; exact hrga.2.2) (by rw [hla]; exact hrga.2.1) hra
              have HTB := Lib.hid fun W (hW : Ext w23 W) => i_TaN rb.1 lb rb.2.1 rb.2.2 W (hrgb.1.ext hW) hlb (by rw [hlb]; exact hrgb.2.2) (by rw [hlb]; exact hrgb.2.1) hrb
              have HTM := Lib.hid fun W (hW : Ext w2 W) => i_TaN A2 ms c2 mp W (HS2.out.ext hW) HMSL.out hml HC2.out q2
              have ba := areaA_bd hra
              have bb := areaA_bd hrb
              have HX223 : Hid (Ext w2 w23) := Lib.hid (HX26.out.trans (HX20.out.trans (by (repeat (first | with_reducible exact Ext.refl _ | with_reducible assumption | ((with_reducible apply Src.ext); with_reducible assumption) | with_reducible refine Ext.alloc ?_ _ | with_reducible refine Ext.drew ?_ | with_reducible refine Ext.drewN ?_ _ | ((with_reducible refine Ext.setCell' ?_ ?_ _); solve | omega | simp | (simp; omega)) | (with_reducible refine Ext.trans ?_ (by with_reducible assumption)))))))
              have HXF : Hid (Ext w w23) := Lib.hid (HX1.out.trans hX1W)
              generalize areaA ra.2.2 = ua at *
              generalize areaA rb.2.2 = ub at *
              generalize areaA mp = um at *
              have hwu : IntKind.i64.wrap (ua + ub) = ua + ub := IntWalk.i64_in _ (by omega)
              have hfin : (ua + ub == um) = true := by rw [beq_iff_eq]; exact q3.symm
              have i1 : (0 : Int) ≤ (ja : Int) := by omega
              have i2 : (ja : Int) < (n1 : Int) := by omega
              have i3 : (0 : Int) ≤ (jb : Int) := by omega
              have i4 : (jb : Int) < (n1 : Int) := by omega
              have hb1n : b1' < w23.heap.size := hb1'
              clear hm0 q1 q2 q3 hmap a1 a2 b1 b2 hja hjb ha3 hb3 hra hrb hrga hrgb hrae hrbe hla hlb hX1W hx23 ba bb hx1
              go_wp2_with fail
              refine (HTA.out _ (by (repeat (first | with_reducible exact Ext.refl _ | with_reducible assumption | ((with_reducible apply Src.ext); with_reducible assumption) | with_reducible refine Ext.alloc ?_ _ | with_reducible refine Ext.drew ?_ | with_reducible refine Ext.drewN ?_ _ | ((with_reducible refine Ext.setCell' ?_ ?_ _); solve | omega | simp | (simp; omega)) | (with_reducible refine Ext.trans ?_ (by with_reducible assumption)))))).mono ?_
              rintro e w24 ⟨rfl, hx24⟩
              have d2' := (hx24.cell b1' (o1 + jb) hb1n).trans d2
              go_wp2_with fail
              refine (HTB.out _ (by (repeat (first | with_reducible exact Ext.refl _ | with_reducible assumption | ((with_reducible apply Src.ext); with_reducible assumption) | with_reducible refine Ext.alloc ?_ _ | with_reducible refine Ext.drew ?_ | with_reducible refine Ext.drewN ?_ _ | ((with_reducible refine Ext.setCell' ?_ ?_ _); solve | omega | simp | (simp; omega)) | (with_reducible refine Ext.trans ?_ (by with_reducible assumption)))))).mono ?_
              rintro e w25 ⟨rfl, hx25⟩
              go_wp2_with fail
              refine (HTM.out _ (HX223.out.trans (by (repeat (first | with_reducible exact Ext.refl _ | with_reducible assumption | ((with_reducible apply Src.ext); with_reducible assumption) | with_reducible refine Ext.alloc ?_ _ | with_reducible refine Ext.drew ?_ | with_reducible refine Ext.drewN ?_ _ | ((with_reducible refine Ext.setCell' ?_ ?_ _); solve | omega | simp | (simp; omega)) | (with_reducible refine Ext.trans ?_ (by with_reducible assumption))))))).mono ?_
              rintro e w26 ⟨rfl, hx26⟩
              go_wp2
              go_ret
              exact ⟨rfl, HXF.out.trans (by (repeat (first | with_reducible exact Ext.refl _ | with_reducible assumption | ((with_reducible apply Src.ext); with_reducible assumption) | with_reducible refine Ext.alloc ?_ _ | with_reducible refine Ext.drew ?_ | with_reducible refine Ext.drewN ?_ _ | ((with_reducible refine Ext.setCell' ?_ ?_ _); solve | omega | simp | (simp; omega)) | (with_reducible refine Ext.trans ?_ (by with_reducible assumption)))))⟩
            · have hmb : (mc != 0) = true := by rw [bne_iff_ne]; exact hm0
              clear hm0
              go_wp2
              go_ret
              exact ⟨rfl, HX1.out.trans (HX16.out.trans (HX20.out.trans (by (repeat (first | with_reducible exact Ext.refl _ | with_reducible assumption | ((with_reducible apply Src.ext); with_reducible assumption) | with_reducible refine Ext.alloc ?_ _ | with_reducible refine Ext.drew ?_ | with_reducible refine Ext.drewN ?_ _ | ((with_reducible refine Ext.setCell' ?_ ?_ _); solve | omega | simp | (simp; omega)) | (with_reducible refine Ext.trans ?_ (by with_reducible assumption)))))))⟩
          · have hsb : (sc == 0) = false := beq_eq_false_iff_ne.2 hs0
            have hm0 : mc ≠ 0 := fun e => hs0 (HMA.out e).1
            have hmb : (mc != 0) = true := by rw [bne_iff_ne]; exact hm0
            clear hs0 hm0
            go_wp2
            go_ret
            exact ⟨rfl, HX1.out.trans (HX16.out.trans (HX20.out.trans (by (repeat (first | with_reducible exact Ext.refl _ | with_reducible assumption | ((with_reducible apply Src.ext); with_reducible assumption) | with_reducible refine Ext.alloc ?_ _ | with_reducible refine Ext.drew ?_ | with_reducible refine Ext.drewN ?_ _ | ((with_reducible refine Ext.setCell' ?_ ?_ _); solve | omega | simp | (simp; omega)) | (with_reducible refine Ext.trans ?_ (by with_reducible assumption)))))))⟩
        · have hzb : (nc == 0) = false := beq_eq_false_iff_ne.2 hz
          clear hz hgo
          go_upto_region 21 with (fail)
          by_cases hs0 : sc = 0
          · have hsb : (sc == 0) = true := by rw [beq_iff_eq]; exact hs0
            obtain ⟨hb0, hbl⟩ := HSEB.out hs0
            rw [hb0] at HSB
            have HBL := Lib.hid hbl
            clear hs0 hb0 hbl HSEB
            go_wp2_with fail
            refine (HSB.out _ (HX16.out.trans (HX20.out.trans (by (repeat (first | with_reducible exact Ext.refl _ | with_reducible assumption | ((with_reducible apply Src.ext); with_reducible assumption) | with_reducible refine Ext.alloc ?_ _ | with_reducible refine Ext.drew ?_ | with_reducible refine Ext.drewN ?_ _ | ((with_reducible refine Ext.setCell' ?_ ?_ _); solve | omega | simp | (simp; omega)) | (with_reducible refine Ext.trans ?_ (by with_reducible assumption)))))))).mono ?_
            rintro e w23 ⟨v23, rfl, hO23, hx23⟩
            obtain ⟨A23, c23, rfl, -, -, -, -⟩ := hO23.sl len_encE
            rw [HBL.out]
            have hll : ((ls : Int) != (ls : Int)) = false := by simp
            clear hO23 HSB
            by_cases hm0 : mc = 0
            · have hmb : (mc != 0) = false := by rw [bne_eq_false_iff_eq]; exact hm0
              obtain ⟨q1, q2, q3⟩ := HMA.out hm0
              obtain ⟨hmap, ⟨a1, a2⟩, b1, b2⟩ := HAB.out q1
              obtain ⟨ja, rfl⟩ : ∃ j : Nat, a = (j : Int) := ⟨a.toNat, by omega⟩
              obtain ⟨jb, rfl⟩ : ∃ j : Nat, b = (j : Int) := ⟨b.toNat, by omega⟩
              have hja : ja < rs.length := by rw [← HN1.out]; omega
              have hjb : jb < rs.length := by rw [← HN1.out]; omega
              have ha3 : (psOf rs).getD ja [] = (rs.getD ja rgD).2.2 := psOf_at hja
              have hb3 : (psOf rs).getD jb [] = (rs.getD jb rgD).2.2 := psOf_at hjb
              have hra := map_ring hmap (k := ja) (by rw [psOf_len]; exact hja)
              have hrb := map_ring hmap (k := jb) (by rw [psOf_len]; exact hjb)
              rw [ha3] at hra
              rw [hb3] at hrb
              rw [Int.toNat_natCast, Int.toNat_natCast, ha3, hb3] at q3
              have hX1W : Ext w1 w23 := HX16.out.trans (HX20.out.trans (by (repeat (first | with_reducible exact Ext.refl _ | with_reducible assumption | ((with_reducible apply Src.ext); with_reducible assumption) | with_reducible refine Ext.alloc ?_ _ | with_reducible refine Ext.drew ?_ | with_reducible refine Ext.drewN ?_ _ | ((with_reducible refine Ext.setCell' ?_ ?_ _); solve | omega | simp | (simp; omega)) | (with_reducible refine Ext.trans ?_ (by with_reducible assumption))))))
              obtain ⟨b1', o1, hA1, hb1', d1⟩ := (HS1.out.ext hX1W).rg hja
              subst hA1
              have d2 := SlAt.rg' (HS1.out.ext hX1W) hjb
              have hrga := (HR1.out.ext hX1W) _ (rg_mem hja)
              have hrgb := (HR1.out.ext hX1W) _ (rg_mem hjb)
              obtain ⟨ra, hrae⟩ : ∃ r, r = rs.getD ja rgD := ⟨_, rfl⟩
              obtain ⟨rb, hrbe⟩ : ∃ r, r = rs.getD jb rgD := ⟨_, rfl⟩
              rw [← hrae] at d1 hrga hra q3
              rw [← hrbe] at d2 hrgb hrb q3
              obtain ⟨la, hla⟩ : ∃ l, l = ra.2.2.length := ⟨_, rfl⟩
              obtain ⟨lb, hlb⟩ : ∃ l, l = rb.2.2.length := ⟨_, rfl⟩
              rw [← hla] at d1
              rw [← hlb] at d2
              have HTA := Lib.hid fun W (hW : Ext w23 W) => i_TaN ra.1 la ra.2.1 ra.2.2 W (hrga.1.ext hW) hla (by rw [hla]; exact hrga.2.2) (by rw [hla]; exact hrga.2.1) hra
              have HTB := Lib.hid fun W (hW : Ext w23 W) => i_TaN rb.1 lb rb.2.1 rb.2.2 W (hrgb.1.ext hW) hlb (by rw [hlb]; exact hrgb.2.2) (by rw [hlb]; exact hrgb.2.1) hrb
              have HTM := Lib.hid fun W (hW : Ext w2 W) => i_TaN A2 ms c2 mp W (HS2.out.ext hW) HMSL.out hml HC2.out q2
              have ba := areaA_bd hra
              have bb := areaA_bd hrb
              have HX223 : Hid (Ext w2 w23) := Lib.hid (HX26.out.trans (HX20.out.trans (by (repeat (first | with_reducible exact Ext.refl _ | with_reducible assumption | ((with_reducible apply Src.ext); with_reducible assumption) | with_reducible refine Ext.alloc ?_ _ | with_reducible refine Ext.drew ?_ | with_reducible refine Ext.drewN ?_ _ | ((with_reducible refine Ext.setCell' ?_ ?_ _); solve | omega | simp | (simp; omega)) | (with_reducible refine Ext.trans ?_ (by with_reducible assumption)))))))
              have HXF : Hid (Ext w w23) := Lib.hid (HX1.out.trans hX1W)
              generalize areaA ra.2.2 = ua at *
              generalize areaA rb.2.2 = ub at *
              generalize areaA mp = um at *
              have hwu : IntKind.i64.wrap (ua + ub) = ua + ub := IntWalk.i64_in _ (by omega)
              have hfin : (ua + ub == um) = true := by rw [beq_iff_eq]; exact q3.symm
              have i1 : (0 : Int) ≤ (ja : Int) := by omega
              have i2 : (ja : Int) < (n1 : Int) := by omega
              have i3 : (0 : Int) ≤ (jb : Int) := by omega
              have i4 : (jb : Int) < (n1 : Int) := by omega
              have hb1n : b1' < w23.heap.size := hb1'
              clear hm0 q1 q2 q3 hmap a1 a2 b1 b2 hja hjb ha3 hb3 hra hrb hrga hrgb hrae hrbe hla hlb hX1W hx23 ba bb hx1
              go_wp2_with fail
              refine (HTA.out _ (by (repeat (first | with_reducible exact Ext.refl _ | with_reducible assumption | ((with_reducible apply Src.ext); with_reducible assumption) | with_reducible refine Ext.alloc ?_ _ | with_reducible refine Ext.drew ?_ | with_reducible refine Ext.drewN ?_ _ | ((with_reducible refine Ext.setCell' ?_ ?_ _); solve | omega | simp | (simp; omega)) | (with_reducible refine Ext.trans ?_ (by with_reducible assumption)))))).mono ?_
              rintro e w24 ⟨rfl, hx24⟩
              have d2' := (hx24.cell b1' (o1 + jb) hb1n).trans d2
              go_wp2_with fail
              refine (HTB.out _ (by (repeat (first | with_reducible exact Ext.refl _ | with_reducible assumption | ((with_reducible apply Src.ext); with_reducible assumption) | with_reducible refine Ext.alloc ?_ _ | with_reducible refine Ext.drew ?_ | with_reducible refine Ext.drewN ?_ _ | ((with_reducible refine Ext.setCell' ?_ ?_ _); solve | omega | simp | (simp; omega)) | (with_reducible refine Ext.trans ?_ (by with_reducible assumption)))))).mono ?_
              rintro e w25 ⟨rfl, hx25⟩
              go_wp2_with fail
              refine (HTM.out _ (HX223.out.trans (by (repeat (first | with_reducible exact Ext.refl _ | with_reducible assumption | ((with_reducible apply Src.ext); with_reducible assumption) | with_reducible refine Ext.alloc ?_ _ | with_reducible refine Ext.drew ?_ | with_reducible refine Ext.drewN ?_ _ | ((with_reducible refine Ext.setCell' ?_ ?_ _); solve | omega | simp | (simp; omega)) | (with_reducible refine Ext.trans ?_ (by with_reducible assumption))))))).mono ?_
              rintro e w26 ⟨rfl, hx26⟩
              go_wp2
              go_ret
              exact ⟨rfl, HXF.out.trans (by (repeat (first | with_reducible exact Ext.refl _ | with_reducible assumption | ((with_reducible apply Src.ext); with_reducible assumption) | with_reducible refine Ext.alloc ?_ _ | with_reducible refine Ext.drew ?_ | with_reducible refine Ext.drewN ?_ _ | ((with_reducible refine Ext.setCell' ?_ ?_ _); solve | omega | simp | (simp; omega)) | (with_reducible refine Ext.trans ?_ (by with_reducible assumption)))))⟩
            · have hmb : (mc != 0) = true := by rw [bne_iff_ne]; exact hm0
              clear hm0
              go_wp2
              go_ret
              exact ⟨rfl, HX1.out.trans (HX16.out.trans (HX20.out.trans (by (repeat (first | with_reducible exact Ext.refl _ | with_reducible assumption | ((with_reducible apply Src.ext); with_reducible assumption) | with_reducible refine Ext.alloc ?_ _ | with_reducible refine Ext.drew ?_ | with_reducible refine Ext.drewN ?_ _ | ((with_reducible refine Ext.setCell' ?_ ?_ _); solve | omega | simp | (simp; omega)) | (with_reducible refine Ext.trans ?_ (by with_reducible assumption)))))))⟩
          · have hsb : (sc == 0) = false := beq_eq_false_iff_ne.2 hs0
            have hm0 : mc ≠ 0 := fun e => hs0 (HMA.out e).1
            have hmb : (mc != 0) = true := by rw [bne_iff_ne]; exact hm0
            clear hs0 hm0
            go_wp2
            go_ret
            exact ⟨rfl, HX1.out.trans (HX16.out.trans (HX20.out.trans (by (repeat (first | with_reducible exact Ext.refl _ | with_reducible assumption | ((with_reducible apply Src.ext); with_reducible assumption) | with_reducible refine Ext.alloc ?_ _ | with_reducible refine Ext.drew ?_ | with_reducible refine Ext.drewN ?_ _ | ((with_reducible refine Ext.setCell' ?_ ?_ _); solve | omega | simp | (simp; omega)) | (with_reducible refine Ext.trans ?_ (by with_reducible assumption)))))))⟩
  · have hbg : ∀ W, Calls Try.prog 7 #[.slice A bs.length c] W fun e w' => e = .returned (.bool true) ∧ W = w' := fun W => by
      have := l_bigM A c bs.length W
      rwa [decide_eq_true (by omega)] at this
    have HG := Lib.hid hbg
    clear hbg
    go_enter Try.func6, Try.ntmps6
    (go_wp2_with fail; refine (HG.out _).mono ?_; rintro e w' ⟨rfl, rfl⟩)
    go_wp2
    go_ret
    exact ⟨rfl, by (repeat (first | with_reducible exact Ext.refl _ | with_reducible assumption | ((with_reducible apply Src.ext); with_reducible assumption) | with_reducible refine Ext.alloc ?_ _ | with_reducible refine Ext.drew ?_ | with_reducible refine Ext.drewN ?_ _ | ((with_reducible refine Ext.setCell' ?_ ?_ _); solve | omega | simp | (simp; omega)) | (with_reducible refine Ext.trans ?_ (by with_reducible assumption))))⟩

end Go.Proofs.Yteppjdoggjcdoaa
