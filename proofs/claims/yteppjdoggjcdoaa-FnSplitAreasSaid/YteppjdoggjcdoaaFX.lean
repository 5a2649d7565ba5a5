/- The law of split areas, walked over the translation. -/
import Derived.Test.YteppjdoggjcdoaaFS
import Derived.Deep.RegionHeld3
import Derived.Deep.DeepCutAuto
import Derived.RegionTactic
import Derived.BigRegion
import Derived.WalkLawsBesides
import Derived.WalkSpells
import Derived.Lib.MinMax
import Derived.Outline
namespace Go.Proofs.Yteppjdoggjcdoaa
open Go.RowKit
attribute [local go_sem] ExtOf.cell ExtOf.frozen


theorem obP_len (L : List (List (Int × Int))) : (obP L).length ≤ 72 := by
  unfold obP
  split
  · rename_i h
    have hm := mapB_iff.1 h
    have h1 := outTo_len (allE L) (allE L).length
    have h2 := alTo_len hm L.length (Nat.le_refl _)
    have h3 := hm.1
    unfold allE at *
    omega
  · simp

theorem split_law {ps : List (Int × Int)} {a b : Int} (h : saC ps a b = 0) : mapB [sa1 ps a b, sa2 ps a b] = true ∧ maC [sa1 ps a b, sa2 ps a b] 0 1 = 0 ∧ maP [sa1 ps a b, sa2 ps a b] 0 1 = nrP ps ∧ ringC ps = 0 := by
  have e1 : sa1 ps a b = normS (cut1 (normS ps) a.toNat b.toNat) := if_pos h
  have e2 : sa2 ps a b = normS (cut2 (normS ps) a.toNat b.toNat) := if_pos h
  unfold saC at h
  split at h
  · rename_i hr
    split at h
    · rename_i hi
      split at h
      · rename_i hm
        obtain ⟨i1, i2, i3⟩ := hi
        have hm2 : MapP [cut1 (normS ps) a.toNat b.toNat, cut2 (normS ps) a.toNat b.toNat] := mapB_iff.1 hm
        obtain ⟨s1, s2, s3, s4⟩ := split_all (ringB_iff.1 hr) (a := a.toNat) (b := b.toNat) (by omega) (by omega) hm2
        rw [e1, e2]
        generalize normS (cut1 (normS ps) a.toNat b.toNat) = p at *
        generalize normS (cut2 (normS ps) a.toNat b.toNat) = q at *
        have hmb : mapB [p, q] = true := mapB_iff.2 s1
        have hab : abC [p, q] 0 1 = 0 := arC_zero.2 ⟨hmb, fun x hx => by
          simp at hx
          rcases hx with rfl | rfl <;> simp⟩
        have hmc : maC [p, q] 0 1 = 0 := by
          unfold maC
          rw [if_pos hab]
          show (if shE p q = [] then (5 : Int) else if mgB (mgE p q) = true then 0 else 4) = 0
          rw [if_neg s2, if_pos s3]
        refine ⟨hmb, hmc, ?_, ringC_yes hr⟩
        unfold maP
        rw [if_pos hmc]
        show mgR (mgE p q) = nrP ps
        rw [s4]
        unfold nrP
        rw [if_pos hr]
      · omega
    · omega
  · omega
theorem i_Ma2 {g lp lq c1 c2 : Nat} {A1 A2 : Option Addr} (p q r : List (Int × Int)) (w : World) (h : Blk w g 24 #[.slice A1 lp c1, .slice A2 lq c2]) (e1 : lp = p.length) (e2 : lq = q.length) (h1 : SlAt w 2 encP A1 p) (h2 : SlAt w 2 encP A2 q) (n1 : lp ≤ c1) (n2 : lq ≤ c2) (l1 : lp ≤ 1048576) (l2 : lq ≤ 1048576) (hz : maC [p, q] 0 1 = 0) (hr : maP [p, q] 0 1 = r) :
    Calls Try.prog 28 #[.slice (some ⟨g, 0, none⟩) 2 2, .int .i64 0, .int .i64 1] w fun e w' => ∃ v, e = .returned (.tuple #[v, .int .i64 0]) ∧ OwP w' w.heap.size v r ∧ Ext w w' := by
  subst e1 e2
  have := i_MergeAreas (some ⟨g, 0, none⟩) 2 [(A1, c1, p), (A2, c2, q)] 0 1 w (two_sl h) (two_rings h1 h2 n1 n2 l1 l2) (by show 2 ≤ 1048576; omega) (Nat.le_refl _)
  rw [show maC (psOf [(A1, c1, p), (A2, c2, q)]) 0 1 = 0 from hz, show maP (psOf [(A1, c1, p), (A2, c2, q)]) 0 1 = r from hr] at this
  exact this
theorem i_Mp2 {g lp lq c1 c2 : Nat} {A1 A2 : Option Addr} (p q : List (Int × Int)) (w : World) (h : Blk w g 24 #[.slice A1 lp c1, .slice A2 lq c2]) (e1 : lp = p.length) (e2 : lq = q.length) (h1 : SlAt w 2 encP A1 p) (h2 : SlAt w 2 encP A2 q) (n1 : lp ≤ c1) (n2 : lq ≤ c2) (l1 : lp ≤ 1048576) (l2 : lq ≤ 1048576) (hz : mapB [p, q] = true) :
    Calls Try.prog 44 #[.slice (some ⟨g, 0, none⟩) 2 2] w fun e w' => e = .returned (.bool true) ∧ Ext w w' := by
  subst e1 e2
  exact i_Map2 p q hz h h1 h2 n1 n2 l1 l2
set_option maxRecDepth 20000 in
set_option maxHeartbeats 51200000 in
theorem fnSplitAreas_walk (A : Option Addr) (c : Nat) (bs : List Int) (w : World) (h : SlAt w 1 encB A bs) (hb : ∀ b ∈ bs, 0 ≤ b ∧ b ≤ 255) :
    Calls Try.prog 5 #[.slice A bs.length c] w fun e w' => e = .returned (.bool true) ∧ Ext w w' := by
  have HB := Lib.hid hb
  clear hb
  by_cases hl : bs.length ≤ 4096
  · have hbg : ∀ W, Calls Try.prog 7 #[.slice A bs.length c] W fun e w' => e = .returned (.bool false) ∧ W = w' := fun W => by
      have := l_bigM A c bs.length W
      rwa [decide_eq_false (by omega)] at this
    have HG := Lib.hid hbg
    have HL := Lib.hid hl
    clear hbg hl
    go_enter Try.func5, Try.ntmps5
    (go_wp2_with fail; refine (HG.out _).mono ?_; rintro e w' ⟨rfl, rfl⟩)
    go_wp2_with fail
    refine (s_DrawSplitArea _ _ bs _ (h.ext (by (repeat (first | with_reducible exact Ext.refl _ | with_reducible assumption | ((with_reducible apply Src.ext); with_reducible assumption) | with_reducible refine Ext.alloc ?_ _ | with_reducible refine Ext.drew ?_ | with_reducible refine Ext.drewN ?_ _ | ((with_reducible refine Ext.setCell' ?_ ?_ _); solve | omega | simp | (simp; omega)) | (with_reducible refine Ext.trans ?_ (by with_reducible assumption)))))) HB.out HL.out).mono ?_
    rintro e w1 ⟨A1, c1, ps, a, b, rfl, hS1, hc1, hl1, hx1⟩
    have hpl : ps.length ≤ 1048576 := by omega
    have HPI := Lib.hid fun W (hW : Ext w1 W) => i_SplitArea A1 c1 ps a b W (hS1.ext hW) hpl hc1
    have HPS := Lib.hid fun W (hW : Ext w1 W) => s_SplitArea A1 c1 ps a b W (hS1.ext hW) hpl
    have HNR := Lib.hid fun W (hW : Ext w1 W) => i_NormalRing A1 c1 ps W (hS1.ext hW) hpl hc1
    have HLAW : Hid (saC ps a b = 0 → mapB [sa1 ps a b, sa2 ps a b] = true ∧ maC [sa1 ps a b, sa2 ps a b] 0 1 = 0 ∧ maP [sa1 ps a b, sa2 ps a b] 0 1 = nrP ps ∧ ringC ps = 0) := Lib.hid split_law
    have HLP : Hid ((sa1 ps a b).length ≤ 100 ∧ (sa2 ps a b).length ≤ 100 ∧ (nrP ps).length ≤ 100) := Lib.hid (by
      have h1 := nrP_len ps
      refine ⟨?_, ?_, by omega⟩
      · unfold sa1
        split
        · rw [normS_len]; unfold cut1; rw [List.length_take, List.length_drop, normS_len]; omega
        · simp
      · unfold sa2
        split
        · rw [normS_len]; unfold cut2; rw [List.length_append, List.length_take, List.length_drop, normS_len]; omega
        · simp)
    have HX1 := Lib.hid hx1
    obtain ⟨n1, hn1⟩ : ∃ n1, n1 = ps.length := ⟨_, rfl⟩
    obtain ⟨sc, hsc⟩ : ∃ sc, sc = saC ps a b := ⟨_, rfl⟩
    obtain ⟨p, hp⟩ : ∃ p, p = sa1 ps a b := ⟨_, rfl⟩
    obtain ⟨q, hq⟩ : ∃ q, q = sa2 ps a b := ⟨_, rfl⟩
    obtain ⟨nr, hnr⟩ : ∃ nr, nr = nrP ps := ⟨_, rfl⟩
    obtain ⟨rc, hrc⟩ : ∃ rc, rc = ringC ps := ⟨_, rfl⟩
    obtain ⟨lp, hlp⟩ : ∃ lp, lp = p.length := ⟨_, rfl⟩
    obtain ⟨lq, hlq⟩ : ∃ lq, lq = q.length := ⟨_, rfl⟩
    obtain ⟨lr, hlr⟩ : ∃ lr, lr = nr.length := ⟨_, rfl⟩
    rw [← hsc, ← hp, ← hq] at HPI HPS
    rw [← hnr, ← hrc] at HNR
    rw [← hsc, ← hp, ← hq, ← hnr, ← hrc] at HLAW
    rw [← hp, ← hq, ← hnr, ← hlp, ← hlq, ← hlr] at HLP
    rw [← hn1] at HPI HPS HNR ⊢
    have HPL := Lib.hid hlp
    have HQL := Lib.hid hlq
    have HRL := Lib.hid hlr
    clear hn1 hsc hp hq hnr hrc hlp hlq hlr hS1 hc1 hl1 hpl
    go_wp2_with fail
    refine (HPI.out _ (by (repeat (first | with_reducible exact Ext.refl _ | with_reducible assumption | ((with_reducible apply Src.ext); with_reducible assumption) | with_reducible refine Ext.alloc ?_ _ | with_reducible refine Ext.drew ?_ | with_reducible refine Ext.drewN ?_ _ | ((with_reducible refine Ext.setCell' ?_ ?_ _); solve | omega | simp | (simp; omega)) | (with_reducible refine Ext.trans ?_ (by with_reducible assumption)))))).mono ?_
    rintro e w2 ⟨v2, u2, m2, rfl, hO2, hU2, -, -, hx2⟩
    obtain ⟨A2, c2, rfl, hS2, hc2, -, -⟩ := hO2.sl len_encP
    obtain ⟨B2, d2, rfl, hT2, hd2, -, -⟩ := hU2.sl len_encP
    rw [← HPL.out] at hc2 ⊢
    rw [← HQL.out] at hd2 ⊢
    have HS2 := Lib.hid hS2
    have HT2 := Lib.hid hT2
    have HC2 := Lib.hid hc2
    have HD2 := Lib.hid hd2
    clear hO2 hU2 hS2 hT2 hc2 hd2
    go_wp2_with fail
    refine (HPS.out _ (by (repeat (first | with_reducible exact Ext.refl _ | with_reducible assumption | ((with_reducible apply Src.ext); with_reducible assumption) | with_reducible refine Ext.alloc ?_ _ | with_reducible refine Ext.drew ?_ | with_reducible refine Ext.drewN ?_ _ | ((with_reducible refine Ext.setCell' ?_ ?_ _); solve | omega | simp | (simp; omega)) | (with_reducible refine Ext.trans ?_ (by with_reducible assumption)))))).mono ?_
    rintro e w3 ⟨v3, u3, m3, rfl, hO3, hU3, -, -, hx3⟩
    obtain ⟨A3, c3, rfl, hS3, -, -, -⟩ := hO3.sl len_encP
    obtain ⟨B3, d3, rfl, hT3, -, -, -⟩ := hU3.sl len_encP
    rw [← HPL.out, ← HQL.out]
    have HS3 := Lib.hid hS3
    have HT3 := Lib.hid hT3
    clear hO3 hU3 hS3 hT3
    go_wp2_with fail
    refine (s_DrawEdgesOf _ _ bs _ (h.ext (by (repeat (first | with_reducible exact Ext.refl _ | with_reducible assumption | ((with_reducible apply Src.ext); with_reducible assumption) | with_reducible refine Ext.alloc ?_ _ | with_reducible refine Ext.drew ?_ | with_reducible refine Ext.drewN ?_ _ | ((with_reducible refine Ext.setCell' ?_ ?_ _); solve | omega | simp | (simp; omega)) | (with_reducible refine Ext.trans ?_ (by with_reducible assumption)))))) HB.out HL.out).mono ?_
    rintro e w4 ⟨A4, c4, xs, rfl, hS4, hc4, hl4, hx4⟩
    have hxl : xs.length ≤ 1048576 := by omega
    have HEI := Lib.hid fun W (hW : Ext w4 W) => i_EdgesOf A4 c4 xs W (hS4.ext hW) hxl hc4
    have HES := Lib.hid fun W (hW : Ext w4 W) => s_EdgesOf A4 c4 xs W (hS4.ext hW) hxl
    have HEN : Hid (∀ k, k < (eoP xs).length → ((eoP xs).getD k edD).2 = ((eoP xs).getD ((k + 1) % (eoP xs).length) edD).1) := Lib.hid fun k hk => eo_next xs hk
    have HLE : Hid ((eoP xs).length ≤ 10) := Lib.hid (by have := eoP_len xs; omega)
    obtain ⟨n4, hn4⟩ : ∃ n4, n4 = xs.length := ⟨_, rfl⟩
    obtain ⟨eo, heo⟩ : ∃ eo, eo = eoP xs := ⟨_, rfl⟩
    obtain ⟨ec, hec⟩ : ∃ ec, ec = ringC xs := ⟨_, rfl⟩
    obtain ⟨le, hle⟩ : ∃ le, le = eo.length := ⟨_, rfl⟩
    rw [← heo, ← hec] at HEI HES
    rw [← heo, ← hle] at HEN HLE
    rw [← hn4] at HEI HES ⊢
    have HLL := Lib.hid hle
    clear hn4 heo hec hle hS4 hc4 hl4 hxl
    go_wp2_with fail
    refine (HEI.out _ (by (repeat (first | with_reducible exact Ext.refl _ | with_reducible assumption | ((with_reducible apply Src.ext); with_reducible assumption) | with_reducible refine Ext.alloc ?_ _ | with_reducible refine Ext.drew ?_ | with_reducible refine Ext.drewN ?_ _ | ((with_reducible refine Ext.setCell' ?_ ?_ _); solve | omega | simp | (simp; omega)) | (with_reducible refine Ext.trans ?_ (by with_reducible assumption)))))).mono ?_
    rintro e w5 ⟨v5, rfl, hO5, hx5⟩
    obtain ⟨A5, c5, rfl, hS5, -, -, -⟩ := hO5.sl len_encE
    rw [← HLL.out]
    have HS5 := Lib.hid hS5
    clear hO5 hS5
    go_wp2_with fail
    refine (HES.out _ (by (repeat (first | with_reducible exact Ext.refl _ | with_reducible assumption | ((with_reducible apply Src.ext); with_reducible assumption) | with_reducible refine Ext.alloc ?_ _ | with_reducible refine Ext.drew ?_ | with_reducible refine Ext.drewN ?_ _ | ((with_reducible refine Ext.setCell' ?_ ?_ _); solve | omega | simp | (simp; omega)) | (with_reducible refine Ext.trans ?_ (by with_reducible assumption)))))).mono ?_
    rintro e w6 ⟨v6, rfl, hO6, hx6⟩
    obtain ⟨A6, c6, rfl, hS6, -, -, -⟩ := hO6.sl len_encE
    rw [← HLL.out]
    have HS6 := Lib.hid hS6
    clear hO6 hS6
    go_wp2_with fail
    refine (s_DrawOuterBoundary _ _ bs _ (h.ext (by (repeat (first | with_reducible exact Ext.refl _ | with_reducible assumption | ((with_reducible apply Src.ext); with_reducible assumption) | with_reducible refine Ext.alloc ?_ _ | with_reducible refine Ext.drew ?_ | with_reducible refine Ext.drewN ?_ _ | ((with_reducible refine Ext.setCell' ?_ ?_ _); solve | omega | simp | (simp; omega)) | (with_reducible refine Ext.trans ?_ (by with_reducible assumption)))))) HB.out HL.out).mono ?_
    rintro e w7 ⟨A7, c7, rs, rfl, hS7, hR7, hc7, hl7, hx7⟩
    have hrl : rs.length ≤ 1048576 := by omega
    have HOI := Lib.hid fun W (hW : Ext w7 W) => i_OuterBoundary A7 c7 rs W (hS7.ext hW) (hR7.ext hW) hrl hc7
    have HOS := Lib.hid fun W (hW : Ext w7 W) => s_OuterBoundary A7 c7 rs W (hS7.ext hW) (hR7.ext hW) hrl
    have HOL : Hid ((obP (psOf rs)).length ≤ 1048576) := Lib.hid (by
      have hle := obP_len (psOf rs)
      omega)
    obtain ⟨n7, hn7⟩ : ∃ n7, n7 = rs.length := ⟨_, rfl⟩
    obtain ⟨ob, hob⟩ : ∃ ob, ob = obP (psOf rs) := ⟨_, rfl⟩
    obtain ⟨oc, hoc⟩ : ∃ oc, oc = mapC (psOf rs) := ⟨_, rfl⟩
    obtain ⟨lo, hlo⟩ : ∃ lo, lo = ob.length := ⟨_, rfl⟩
    rw [← hob, ← hoc] at HOI HOS
    rw [← hob, ← hlo] at HOL
    rw [← hn7] at HOI HOS ⊢
    have HOO := Lib.hid hlo
    clear hn7 hob hoc hlo hS7 hR7 hc7 hl7 hrl
    go_wp2_with fail
    refine (HOI.out _ (by (repeat (first | with_reducible exact Ext.refl _ | with_reducible assumption | ((with_reducible apply Src.ext); with_reducible assumption) | with_reducible refine Ext.alloc ?_ _ | with_reducible refine Ext.drew ?_ | with_reducible refine Ext.drewN ?_ _ | ((with_reducible refine Ext.setCell' ?_ ?_ _); solve | omega | simp | (simp; omega)) | (with_reducible refine Ext.trans ?_ (by with_reducible assumption)))))).mono ?_
    rintro e w8 ⟨v8, rfl, hO8, hx8⟩
    obtain ⟨A8, c8, rfl, hS8, -, -, -⟩ := hO8.sl len_encE
    rw [← HOO.out]
    have HS8 := Lib.hid hS8
    clear hO8 hS8
    go_wp2_with fail
    refine (HOS.out _ (by (repeat (first | with_reducible exact Ext.refl _ | with_reducible assumption | ((with_reducible apply Src.ext); with_reducible assumption) | with_reducible refine Ext.alloc ?_ _ | with_reducible refine Ext.drew ?_ | with_reducible refine Ext.drewN ?_ _ | ((with_reducible refine Ext.setCell' ?_ ?_ _); solve | omega | simp | (simp; omega)) | (with_reducible refine Ext.trans ?_ (by with_reducible assumption)))))).mono ?_
    rintro e w9 ⟨v9, rfl, hO9, hx9⟩
    obtain ⟨A9, c9, rfl, hS9, -, -, -⟩ := hO9.sl len_encE
    rw [← HOO.out]
    have HS9 := Lib.hid hS9
    clear hO9 hS9
    have e1 : (sc != sc) = false := by simp
    have e2 : (ec != ec) = false := by simp
    have e3 : (oc != oc) = false := by simp
    have hlpn : lp ≤ 1048576 := by have := HLP.out; omega
    have hlqn : lq ≤ 1048576 := by have := HLP.out; omega
    have hlen : le ≤ 1048576 := by have := HLE.out; omega
    have hlon : lo ≤ 1048576 := HOL.out
    clear HPI HPS HEI HES HOI HOS
    (go_wp2_with fail; refine (l_likeP A2 A3 lp c2 c3 p _ (HS2.out.ext (by (repeat (first | with_reducible exact Ext.refl _ | with_reducible assumption | ((with_reducible apply Src.ext); with_reducible assumption) | with_reducible refine Ext.alloc ?_ _ | with_reducible refine Ext.drew ?_ | with_reducible refine Ext.drewN ?_ _ | ((with_reducible refine Ext.setCell' ?_ ?_ _); solve | omega | simp | (simp; omega)) | (with_reducible refine Ext.trans ?_ (by with_reducible assumption)))))) (HS3.out.ext (by (repeat (first | with_reducible exact Ext.refl _ | with_reducible assumption | ((with_reducible apply Src.ext); with_reducible assumption) | with_reducible refine Ext.alloc ?_ _ | with_reducible refine Ext.drew ?_ | with_reducible refine Ext.drewN ?_ _ | ((with_reducible refine Ext.setCell' ?_ ?_ _); solve | omega | simp | (simp; omega)) | (with_reducible refine Ext.trans ?_ (by with_reducible assumption)))))) HPL.out hlpn).mono ?_; rintro e w11 ⟨rfl, hx11⟩; obtain ⟨hc11, hf11⟩ := hx11.rules; have hs11 := hx11.size; (try simp at hs11))
    (go_wp2_with fail; refine (l_likeP B2 B3 lq d2 d3 q _ (HT2.out.ext (by (repeat (first | with_reducible exact Ext.refl _ | with_reducible assumption | ((with_reducible apply Src.ext); with_reducible assumption) | with_reducible refine Ext.alloc ?_ _ | with_reducible refine Ext.drew ?_ | with_reducible refine Ext.drewN ?_ _ | ((with_reducible refine Ext.setCell' ?_ ?_ _); solve | omega | simp | (simp; omega)) | (with_reducible refine Ext.trans ?_ (by with_reducible assumption)))))) (HT3.out.ext (by (repeat (first | with_reducible exact Ext.refl _ | with_reducible assumption | ((with_reducible apply Src.ext); with_reducible assumption) | with_reducible refine Ext.alloc ?_ _ | with_reducible refine Ext.drew ?_ | with_reducible refine Ext.drewN ?_ _ | ((with_reducible refine Ext.setCell' ?_ ?_ _); solve | omega | simp | (simp; omega)) | (with_reducible refine Ext.trans ?_ (by with_reducible assumption)))))) HQL.out hlqn).mono ?_; rintro e w12 ⟨rfl, hx12⟩; obtain ⟨hc12, hf12⟩ := hx12.rules; have hs12 := hx12.size; (try simp at hs12))
    (go_wp2_with fail; refine (l_likeE A5 A6 le c5 c6 eo _ (HS5.out.ext (by (repeat (first | with_reducible exact Ext.refl _ | with_reducible assumption | ((with_reducible apply Src.ext); with_reducible assumption) | with_reducible refine Ext.alloc ?_ _ | with_reducible refine Ext.drew ?_ | with_reducible refine Ext.drewN ?_ _ | ((with_reducible refine Ext.setCell' ?_ ?_ _); solve | omega | simp | (simp; omega)) | (with_reducible refine Ext.trans ?_ (by with_reducible assumption)))))) (HS6.out.ext (by (repeat (first | with_reducible exact Ext.refl _ | with_reducible assumption | ((with_reducible apply Src.ext); with_reducible assumption) | with_reducible refine Ext.alloc ?_ _ | with_reducible refine Ext.drew ?_ | with_reducible refine Ext.drewN ?_ _ | ((with_reducible refine Ext.setCell' ?_ ?_ _); solve | omega | simp | (simp; omega)) | (with_reducible refine Ext.trans ?_ (by with_reducible assumption)))))) HLL.out hlen).mono ?_; rintro e w13 ⟨rfl, hx13⟩; obtain ⟨hc13, hf13⟩ := hx13.rules; have hs13 := hx13.size; (try simp at hs13))
    (go_wp2_with fail; refine (l_likeE A8 A9 lo c8 c9 ob _ (HS8.out.ext (by (repeat (first | with_reducible exact Ext.refl _ | with_reducible assumption | ((with_reducible apply Src.ext); with_reducible assumption) | with_reducible refine Ext.alloc ?_ _ | with_reducible refine Ext.drew ?_ | with_reducible refine Ext.drewN ?_ _ | ((with_reducible refine Ext.setCell' ?_ ?_ _); solve | omega | simp | (simp; omega)) | (with_reducible refine Ext.trans ?_ (by with_reducible assumption)))))) (HS9.out.ext (by (repeat (first | with_reducible exact Ext.refl _ | with_reducible assumption | ((with_reducible apply Src.ext); with_reducible assumption) | with_reducible refine Ext.alloc ?_ _ | with_reducible refine Ext.drew ?_ | with_reducible refine Ext.drewN ?_ _ | ((with_reducible refine Ext.setCell' ?_ ?_ _); solve | omega | simp | (simp; omega)) | (with_reducible refine Ext.trans ?_ (by with_reducible assumption)))))) HOO.out hlon).mono ?_; rintro e w14 ⟨rfl, hx14⟩; obtain ⟨hc14, hf14⟩ := hx14.rules; have hs14 := hx14.size; (try simp at hs14))
    have HX514 : Hid (Ext w5 w14) := Lib.hid (by (repeat (first | with_reducible exact Ext.refl _ | with_reducible assumption | ((with_reducible apply Src.ext); with_reducible assumption) | with_reducible refine Ext.alloc ?_ _ | with_reducible refine Ext.drew ?_ | with_reducible refine Ext.drewN ?_ _ | ((with_reducible refine Ext.setCell' ?_ ?_ _); solve | omega | simp | (simp; omega)) | (with_reducible refine Ext.trans ?_ (by with_reducible assumption)))))
    have HX25 : Hid (Ext w2 w5) := Lib.hid (by (repeat (first | with_reducible exact Ext.refl _ | with_reducible assumption | ((with_reducible apply Src.ext); with_reducible assumption) | with_reducible refine Ext.alloc ?_ _ | with_reducible refine Ext.drew ?_ | with_reducible refine Ext.drewN ?_ _ | ((with_reducible refine Ext.setCell' ?_ ?_ _); solve | omega | simp | (simp; omega)) | (with_reducible refine Ext.trans ?_ (by with_reducible assumption)))))
    have HX12 : Hid (Ext w1 w2) := Lib.hid (by (repeat (first | with_reducible exact Ext.refl _ | with_reducible assumption | ((with_reducible apply Src.ext); with_reducible assumption) | with_reducible refine Ext.alloc ?_ _ | with_reducible refine Ext.drew ?_ | with_reducible refine Ext.drewN ?_ _ | ((with_reducible refine Ext.setCell' ?_ ?_ _); solve | omega | simp | (simp; omega)) | (with_reducible refine Ext.trans ?_ (by with_reducible assumption)))))
    go_wp2
    clear e1 e2 e3 hx2 hx3 hx4 hx5 hx6 hx7 hx8 hx9 hx11 hx12 hx13 hx14 hc11 hf11 hc12 hf12 hc13 hf13 hc14 hf14 HS3 HT3 HS6 HS8 HS9 hlon HOL HOO
    go_loopw [22] (fun i wr => ∃ k : Nat, k ≤ le ∧ i = .int .i64 k ∧ Ext w14 wr) (fun i _ => le - (intOf i).toNat)
    case atStart => exact ⟨0, by omega, rfl, by (repeat (first | with_reducible exact Ext.refl _ | with_reducible assumption | ((with_reducible apply Src.ext); with_reducible assumption) | with_reducible refine Ext.alloc ?_ _ | with_reducible refine Ext.drew ?_ | with_reducible refine Ext.drewN ?_ _ | ((with_reducible refine Ext.setCell' ?_ ?_ _); solve | omega | simp | (simp; omega)) | (with_reducible refine Ext.trans ?_ (by with_reducible assumption))))⟩
    case round =>
      obtain ⟨k, hk, rfl, hxr⟩ := hrel
      obtain ⟨w20, rfl⟩ : ∃ x, x = wr := ⟨wr, rfl⟩
      by_cases hgo : ec = 0 ∧ k < le
      · obtain ⟨hz, hlt⟩ := hgo
        have hzb : (ec == 0) = true := by rw [beq_iff_eq]; exact hz
        have hm := Nat.mod_lt (k + 1) (show 0 < le by omega)
        obtain ⟨m, hme⟩ : ∃ m, m = (k + 1) % le := ⟨_, rfl⟩
        have hnx := HEN.out k hlt
        rw [← hme] at hm hnx
        have hr : (((k : Int) + 1).tmod (le : Int)) = (m : Int) := by rw [hme]; rfl
        have hr' : ((k : Int) + 1) % (le : Int) = (m : Int) := by rw [hme]; rfl
        obtain ⟨b5, o5, hA5, hb5, d0, d1, d2', d3'⟩ := (HS5.out.ext (HX514.out.trans hxr)).edX (k := k) (by rw [← HLL.out]; exact hlt)
        obtain ⟨b5', o5', hA5', -, f0, f1, -, -⟩ := (HS5.out.ext (HX514.out.trans hxr)).edX (k := m) (by rw [← HLL.out]; exact hm)
        rw [hA5] at hA5'
        injection hA5' with hA5'
        injection hA5' with hq1 hq2
        subst hq1 hq2 hA5
        rw [← hnx] at f0 f1
        obtain ⟨x, hx⟩ : ∃ x, x = (eo.getD k edD).2.1 := ⟨_, rfl⟩
        obtain ⟨z, hz2⟩ : ∃ z, z = (eo.getD k edD).2.2 := ⟨_, rfl⟩
        rw [← hx] at d2' f0
        rw [← hz2] at d3' f1
        have hxx : eqP x z x z = true := by simp [eqP]
        have hn0 : ((le : Int) == 0) = false := beq_eq_false_iff_ne.2 (by omega)
        have hw : IntKind.i64.wrap ((k : Int) + 1) = (k : Int) + 1 := IntWalk.i64_in _ (by omega)
        have i1 : (0 : Int) ≤ (m : Int) := by omega
        have i2 : (m : Int) < (le : Int) := by omega
        have HME := Lib.hid hme
        clear hz hx hz2 hnx hme d0 d1
        go_wp2
        (refine wp_region_ext (by kernel_rfl) (by kernel_rfl) ?_; (repeat (go_big_quiet_step (fail))); refine wpQuiet_nil ?_; intro wq hxwq; obtain ⟨hcwq, hfwq⟩ := hxwq.rules; have hswq := hxwq.size; (try simp at hswq))
        go_wp2
        go_roundw
        case rel => exact ⟨k + 1, by omega, by go_num, by (repeat (first | with_reducible exact Ext.refl _ | with_reducible assumption | ((with_reducible apply Src.ext); with_reducible assumption) | with_reducible refine Ext.alloc ?_ _ | with_reducible refine Ext.drew ?_ | with_reducible refine Ext.drewN ?_ _ | ((with_reducible refine Ext.setCell' ?_ ?_ _); solve | omega | simp | (simp; omega)) | (with_reducible refine Ext.trans ?_ (by with_reducible assumption))))⟩
        case measure => simp [intOf]; omega
      · have HX20 : Hid (Ext w2 w20) := Lib.hid (HX25.out.trans (HX514.out.trans hxr))
        clear hxr HX25 HX514 HS5 HEN
        by_cases hz : ec = 0
        · have hzb : (ec == 0) = true := by rw [beq_iff_eq]; exact hz
          have hkl : k = le := by
            rcases Nat.lt_or_ge k le with q | q
            · exact absurd ⟨hz, q⟩ hgo
            · omega
          clear hz hgo
          obtain rfl := hkl
          go_upto_region 19 with (fail)
          by_cases hs0 : sc = 0
          · have hsb : (sc != 0) = false := by rw [bne_eq_false_iff_eq]; exact hs0
            obtain ⟨q1, q2, q3, q4⟩ := HLAW.out hs0
            have HMA := Lib.hid fun (g : Nat) (W : World) (hB : Blk W g 24 #[.slice A2 lp c2, .slice B2 lq d2]) (hW : Ext w2 W) => i_Ma2 p q nr W hB HPL.out HQL.out (HS2.out.ext hW) (HT2.out.ext hW) HC2.out HD2.out hlpn hlqn q2 q3
            have HMP := Lib.hid fun (g : Nat) (W : World) (hB : Blk W g 24 #[.slice A2 lp c2, .slice B2 lq d2]) (hW : Ext w2 W) => i_Mp2 p q W hB HPL.out HQL.out (HS2.out.ext hW) (HT2.out.ext hW) HC2.out HD2.out hlpn hlqn q1
            rw [q4] at HNR
            have HXF : Hid (Ext w w20) := Lib.hid (HX1.out.trans (HX12.out.trans HX20.out))
            have hlrn : lr ≤ 1048576 := by have := HLP.out; omega
            clear hs0 q1 q2 q3 q4 HLAW hx1
            go_wp2_with fail
            refine (HMA.out _ _ (by (repeat (first | with_reducible assumption | ((with_reducible apply Blk.new); solve | simp | rfl) | with_reducible apply Blk.drew | with_reducible apply Blk.drewN | ((with_reducible apply Blk.far'); solve | omega | simp | (simp; omega)) | with_reducible apply Blk.set_ | with_reducible apply Blk.alloc | ((with_reducible apply Blk.ext'); with_reducible assumption) | ((with_reducible apply Blk.but'); (with_reducible assumption); solve | omega | (simp; omega))))) (HX20.out.trans (by (repeat (first | with_reducible exact Ext.refl _ | with_reducible assumption | ((with_reducible apply Src.ext); with_reducible assumption) | with_reducible refine Ext.alloc ?_ _ | with_reducible refine Ext.drew ?_ | with_reducible refine Ext.drewN ?_ _ | ((with_reducible refine Ext.setCell' ?_ ?_ _); solve | omega | simp | (simp; omega)) | (with_reducible refine Ext.trans ?_ (by with_reducible assumption))))))).mono ?_
            rintro e w21 ⟨v21, rfl, hO21, hx21⟩
            obtain ⟨A21, c21, rfl, hS21, -, -, -⟩ := hO21.sl len_encP
            rw [← HRL.out]
            have HS21 := Lib.hid hS21
            clear hO21 hS21
            go_wp2_with fail
            refine (HNR.out _ (HX12.out.trans (HX20.out.trans (by (repeat (first | with_reducible exact Ext.refl _ | with_reducible assumption | ((with_reducible apply Src.ext); with_reducible assumption) | with_reducible refine Ext.alloc ?_ _ | with_reducible refine Ext.drew ?_ | with_reducible refine Ext.drewN ?_ _ | ((with_reducible refine Ext.setCell' ?_ ?_ _); solve | omega | simp | (simp; omega)) | (with_reducible refine Ext.trans ?_ (by with_reducible assumption)))))))).mono ?_
            rintro e w22 ⟨v22, rfl, hO22, hx22⟩
            obtain ⟨A22, c22, rfl, hS22, -, -, -⟩ := hO22.sl len_encP
            rw [← HRL.out]
            have HS22 := Lib.hid hS22
            clear hO22 hS22
            go_wp2_with fail
            refine (HMP.out _ _ (by (repeat (first | with_reducible assumption | ((with_reducible apply Blk.new); solve | simp | rfl) | with_reducible apply Blk.drew | with_reducible apply Blk.drewN | ((with_reducible apply Blk.far'); solve | omega | simp | (simp; omega)) | with_reducible apply Blk.set_ | with_reducible apply Blk.alloc | ((with_reducible apply Blk.ext'); with_reducible assumption) | ((with_reducible apply Blk.but'); (with_reducible assumption); solve | omega | (simp; omega))))) (HX20.out.trans (by (repeat (first | with_reducible exact Ext.refl _ | with_reducible assumption | ((with_reducible apply Src.ext); with_reducible assumption) | with_reducible refine Ext.alloc ?_ _ | with_reducible refine Ext.drew ?_ | with_reducible refine Ext.drewN ?_ _ | ((with_reducible refine Ext.setCell' ?_ ?_ _); solve | omega | simp | (simp; omega)) | (with_reducible refine Ext.trans ?_ (by with_reducible assumption))))))).mono ?_
            rintro e w23 ⟨rfl, hx23⟩
            (go_wp2_with fail; refine (l_likeP A21 A22 lr c21 c22 nr _ (HS21.out.ext (by (repeat (first | with_reducible exact Ext.refl _ | with_reducible assumption | ((with_reducible apply Src.ext); with_reducible assumption) | with_reducible refine Ext.alloc ?_ _ | with_reducible refine Ext.drew ?_ | with_reducible refine Ext.drewN ?_ _ | ((with_reducible refine Ext.setCell' ?_ ?_ _); solve | omega | simp | (simp; omega)) | (with_reducible refine Ext.trans ?_ (by with_reducible assumption)))))) (HS22.out.ext (by (repeat (first | with_reducible exact Ext.refl _ | with_reducible assumption | ((with_reducible apply Src.ext); with_reducible assumption) | with_reducible refine Ext.alloc ?_ _ | with_reducible refine Ext.drew ?_ | with_reducible refine Ext.drewN ?_ _ | ((with_reducible refine Ext.setCell' ?_ ?_ _); solve | omega | simp | (simp; omega)) | (with_reducible refine Ext.trans ?_ (by with_reducible assumption)))))) HRL.out hlrn).mono ?_; rintro e w24 ⟨rfl, hx24⟩; obtain ⟨hc24, hf24⟩ := hx24.rules; have hs24 := hx24.size; (try simp at hs24))
            go_wp2
            go_ret
            exact ⟨rfl, HXF.out.trans (by (repeat (first | with_reducible exact Ext.refl _ | with_reducible assumption | ((with_reducible apply Src.ext); with_reducible assumption) | with_reducible refine Ext.alloc ?_ _ | with_reducible refine Ext.drew ?_ | with_reducible refine Ext.drewN ?_ _ | ((with_reducible refine Ext.setCell' ?_ ?_ _); solve | omega | simp | (simp; omega)) | (with_reducible refine Ext.trans ?_ (by with_reducible assumption)))))⟩
          · have hsb : (sc != 0) = true := by rw [bne_iff_ne]; exact hs0
            clear hs0
            go_wp2
            go_ret
            exact ⟨rfl, HX1.out.trans (HX12.out.trans (HX20.out.trans (by (repeat (first | with_reducible exact Ext.refl _ | with_reducible assumption | ((with_reducible apply Src.ext); with_reducible assumption) | with_reducible refine Ext.alloc ?_ _ | with_reducible refine Ext.drew ?_ | with_reducible refine Ext.drewN ?_ _ | ((with_reducible refine Ext.setCell' ?_ ?_ _); solve | omega | simp | (simp; omega)) | (with_reducible refine Ext.trans ?_ (by with_reducible assumption)))))))⟩
        · have hzb : (ec == 0) = false := beq_eq_false_iff_ne.2 hz
          clear hz hgo
          go_upto_region 19 with (fail)
          by_cases hs0 : sc = 0
          · have hsb : (sc != 0) = false := by rw [bne_eq_false_iff_eq]; exact hs0
            obtain ⟨q1, q2, q3, q4⟩ := HLAW.out hs0
            have HMA := Lib.hid fun (g : Nat) (W : World) (hB : Blk W g 24 #[.slice A2 lp c2, .slice B2 lq d2]) (hW : Ext w2 W) => i_Ma2 p q nr W hB HPL.out HQL.out (HS2.out.ext hW) (HT2.out.ext hW) HC2.out HD2.out hlpn hlqn q2 q3
            have HMP := Lib.hid fun (g : Nat) (W : World) (hB : Blk W g 24 #[.slice A2 lp c2, .slice B2 lq d2]) (hW : Ext w2 W) => i_Mp2 p q W hB HPL.out HQL.out (HS2.out.ext hW) (HT2.out.ext hW) HC2.out HD2.out hlpn hlqn q1
            rw [q4] at HNR
            have HXF : Hid (Ext w w20) := Lib.hid (HX1.out.trans (HX12.out.trans HX20.out))
            have hlrn : lr ≤ 1048576 := by have := HLP.out; omega
            clear hs0 q1 q2 q3 q4 HLAW hx1
            go_wp2_with fail
            refine (HMA.out _ _ (by (repeat (first | with_reducible assumption | ((with_reducible apply Blk.new); solve | simp | rfl) | with_reducible apply Blk.drew | with_reducible apply Blk.drewN | ((with_reducible apply Blk.far'); solve | omega | simp | (simp; omega)) | with_reducible apply Blk.set_ | with_reducible apply Blk.alloc | ((with_reducible apply Blk.ext'); with_reducible assumption) | ((with_reducible apply Blk.but'); (with_reducible assumption); solve | omega | (simp; omega))))) (HX20.out.trans (by (repeat (first | with_reducible exact Ext.refl _ | with_reducible assumption | ((with_reducible apply Src.ext); with_reducible assumption) | with_reducible refine Ext.alloc ?_ _ | with_reducible refine Ext.drew ?_ | with_reducible refine Ext.drewN ?_ _ | ((with_reducible refine Ext.setCell' ?_ ?_ _); solve | omega | simp | (simp; omega)) | (with_reducible refine Ext.trans ?_ (by with_reducible assumption))))))).mono ?_
            rintro e w21 ⟨v21, rfl, hO21, hx21⟩
            obtain ⟨A21, c21, rfl, hS21, -, -, -⟩ := hO21.sl len_encP
            rw [← HRL.out]
            have HS21 := Lib.hid hS21
            clear hO21 hS21
            go_wp2_with fail
            refine (HNR.out _ (HX12.out.trans (HX20.out.trans (by (repeat (first | with_reducible exact Ext.refl _ | with_reducible assumption | ((with_reducible apply Src.ext); with_reducible assumption) | with_reducible refine Ext.alloc ?_ _ | with_reducible refine Ext.drew ?_ | with_reducible refine Ext.drewN ?_ _ | ((with_reducible refine Ext.setCell' ?_ ?_ _); solve | omega | simp | (simp; omega)) | (with_reducible refine Ext.trans ?_ (by with_reducible assumption)))))))).mono ?_
            rintro e w22 ⟨v22, rfl, hO22, hx22⟩
            obtain ⟨A22, c22, rfl, hS22, -, -, -⟩ := hO22.sl len_encP
            rw [← HRL.out]
            have HS22 := Lib.hid hS22
            clear hO22 hS22
            go_wp2_with fail
            refine (HMP.out _ _ (by (repeat (first | with_reducible assumption | ((with_reducible apply Blk.new); solve | simp | rfl) | with_reducible apply Blk.drew | with_reducible apply Blk.drewN | ((with_reducible apply Blk.far'); solve | omega | simp | (simp; omega)) | with_reducible apply Blk.set_ | with_reducible apply Blk.alloc | ((with_reducible apply Blk.ext'); with_reducible assumption) | ((with_reducible apply Blk.but'); (with_reducible assumption); solve | omega | (simp; omega))))) (HX20.out.trans (by (repeat (first | with_reducible exact Ext.refl _ | with_reducible assumption | ((with_reducible apply Src.ext); with_reducible assumption) | with_reducible refine Ext.alloc ?_ _ | with_reducible refine Ext.drew ?_ | with_reducible refine Ext.drewN ?_ _ | ((with_reducible refine Ext.setCell' ?_ ?_ _); solve | omega | simp | (simp; omega)) | (with_reducible refine Ext.trans ?_ (by with_reducible assumption))))))).mono ?_
            rintro e w23 ⟨rfl, hx23⟩
            (go_wp2_with fail; refine (l_likeP A21 A22 lr c21 c22 nr _ (HS21.out.ext (by (repeat (first | with_reducible exact Ext.refl _ | with_reducible assumption | ((with_reducible apply Src.ext); with_reducible assumption) | with_reducible refine Ext.alloc ?_ _ | with_reducible refine Ext.drew ?_ | with_reducible refine Ext.drewN ?_ _ | ((with_reducible refine Ext.setCell' ?_ ?_ _); solve | omega | simp | (simp; omega)) | (with_reducible refine Ext.trans ?_ (by with_reducible assumption)))))) (HS22.out.ext (by (repeat (first | with_reducible exact Ext.refl _ | with_reducible assumption | ((with_reducible apply Src.ext); with_reducible assumption) | with_reducible refine Ext.alloc ?_ _ | with_reducible refine Ext.drew ?_ | with_reducible refine Ext.drewN ?_ _ | ((with_reducible refine Ext.setCell' ?_ ?_ _); solve | omega | simp | (simp; omega)) | (with_reducible refine Ext.trans ?_ (by with_reducible assumption)))))) HRL.out hlrn).mono ?_; rintro e w24 ⟨rfl, hx24⟩; obtain ⟨hc24, hf24⟩ := hx24.rules; have hs24 := hx24.size; (try simp at hs24))
            go_wp2
            go_ret
            exact ⟨rfl, HXF.out.trans (by (repeat (first | with_reducible exact Ext.refl _ | with_reducible assumption | ((with_reducible apply Src.ext); with_reducible assumption) | with_reducible refine Ext.alloc ?_ _ | with_reducible refine Ext.drew ?_ | with_reducible refine Ext.drewN ?_ _ | ((with_reducible refine Ext.setCell' ?_ ?_ _); solve | omega | simp | (simp; omega)) | (with_reducible refine Ext.trans ?_ (by with_reducible assumption)))))⟩
          · have hsb : (sc != 0) = true := by rw [bne_iff_ne]; exact hs0
            clear hs0
            go_wp2
            go_ret
            exact ⟨rfl, HX1.out.trans (HX12.out.trans (HX20.out.trans (by (repeat (first | with_reducible exact Ext.refl _ | with_reducible assumption | ((with_reducible apply Src.ext); with_reducible assumption) | with_reducible refine Ext.alloc ?_ _ | with_reducible refine Ext.drew ?_ | with_reducible refine Ext.drewN ?_ _ | ((with_reducible refine Ext.setCell' ?_ ?_ _); solve | omega | simp | (simp; omega)) | (with_reducible refine Ext.trans ?_ (by with_reducible assumption)))))))⟩
  · have hbg : ∀ W, Calls Try.prog 7 #[.slice A bs.length c] W fun e w' => e = .returned (.bool true) ∧ W = w' := fun W => by
      have := l_bigM A c bs.length W
      rwa [decide_eq_true (by omega)] at this
    have HG := Lib.hid hbg
    clear hbg
    go_enter Try.func5, Try.ntmps5
    (go_wp2_with fail; refine (HG.out _).mono ?_; rintro e w' ⟨rfl, rfl⟩)
    go_wp2
    go_ret
    exact ⟨rfl, by (repeat (first | with_reducible exact Ext.refl _ | with_reducible assumption | ((with_reducible apply Src.ext); with_reducible assumption) | with_reducible refine Ext.alloc ?_ _ | with_reducible refine Ext.drew ?_ | with_reducible refine Ext.drewN ?_ _ | ((with_reducible refine Ext.setCell' ?_ ?_ _); solve | omega | simp | (simp; omega)) | (with_reducible refine Ext.trans ?_ (by with_reducible assumption))))⟩

end Go.Proofs.Yteppjdoggjcdoaa
