/- The law of the merged areas, walked over the translation. -/
import Derived.Test.YteppjdoggjcdoaaPG2
import Derived.Test.YteppjdoggjcdoaaOC
import Derived.Deep.RegionHeld3
import Derived.Deep.DeepCutAuto
import Derived.RegionTactic
import Derived.BigRegion
import Derived.WalkLawsBesides
import Derived.WalkSpells
import Derived.Lib.MinMax
import Derived.Outline
namespace Go.Proofs.Yteppjdoggjcdoaa
open Go.RowKit
attribute [local go_sem] ExtOf.cell ExtOf.frozen

set_option maxHeartbeats 6400000 in
theorem fnExactMergeAreas_walk (A : Option Addr) (c : Nat) (rs : List Rg) (a b : Int) (w : World) (h : ArgR w A rs) :
    Calls Try.prog 4 #[.slice A rs.length c, .int .i64 a, .int .i64 b] w fun e w' => e = .returned (.bool true) ∧ Ext w w' := by
  go_enter Try.func4, Try.ntmps4
  go_wp2_with fail
  refine (l_szPointSS _ _ rs 1048576 _ h.sl h.len h.lens (by omega) (by omega)).mono ?_
  rintro e w' ⟨⟨z, rfl, hz1, hz⟩, rfl⟩
  rcases hz with rfl | ⟨hz0, hl, hs, hsum⟩
  · go_wp2
    go_ret
    exact ⟨rfl, Ext.refl _⟩
  · have HS := Lib.hid hs
    have hsum0 := sumL_nonneg rs rs.length
    obtain ⟨sm, hsm⟩ : ∃ sm, sm = sumL rs rs.length := ⟨_, rfl⟩
    rw [← hsm] at hsum hsum0
    have HSM := Lib.hid hsm
    obtain ⟨m, hm⟩ : ∃ m, m = (maP (psOf rs) a b).length := ⟨_, rfl⟩
    have hml : m ≤ 72 := by rw [hm]; exact maP_len _ a b
    have HM := Lib.hid hm
    have hm0 : ¬ ((1 : Int) + 2 * (m : Int) < 0) := by omega
    have hm1 : ((1 : Int) + 2 * (m : Int) != 1 + 2 * (m : Int)) = false := by simp
    have hz0 : ¬ ((1 : Int) + 2 * sm < 0) := by omega
    clear hs hm hsm
    go_wp2_with fail
    refine (l_toPointSS _ _ rs _ h.sl h.rg hl HS.out).mono ?_
    rintro e w1 ⟨q1, cs1, rfl, hq1, hp1, hB1, hc1, hO1, hx1⟩
    have HP1 := Lib.hid hp1
    have HC1 := Lib.hid hc1
    have HO1 := Lib.hid hO1
    clear hp1 hc1 hO1
    go_wp2_with fail
    rw [← hq1]
    refine (s_MergeAreas _ _ q1 a b _ (hB1.sl HC1.out len_encR) HO1.out.rings (by omega)).mono ?_
    rintro e w2 ⟨v2, rfl, hO2, hx2⟩
    rw [HP1.out] at hO2 ⊢
    obtain ⟨A2, c2, rfl, hS2, _, _, hA2⟩ := hO2.sl len_encP
    rw [← HM.out, hq1]
    have hX2 := hx1.trans hx2
    clear hO2 hq1 hB1
    have hs2 : w.heap.size ≤ w2.heap.size := hX2.size
    go_wp2_with fail
    refine (l_toPointSS _ _ rs _ (h.ext hX2).sl (h.ext hX2).rg hl HS.out).mono ?_
    rintro e w3 ⟨q3, cs3, rfl, hq3, hp3, hB3, hc3, hO3, hx3⟩
    have HP3 := Lib.hid hp3
    have HC3 := Lib.hid hc3
    have HQ3 := Lib.hid hq3
    have HO3 := Lib.hid hO3
    clear hp3 hc3 hO3
    go_wp2_with fail
    rw [← hq3]
    refine (i_MergeAreas _ _ q3 a b _ (hB3.sl HC3.out len_encR) HO3.out.rings (by omega) (Nat.le_refl _)).mono ?_
    rintro e w4 ⟨v4, rfl, hO4, hx4⟩
    rw [HP3.out] at hO4 ⊢
    rw [hq3]
    have HO4 := Lib.hid hO4
    obtain ⟨A4, c4, rfl, hS4, _, _, hA4⟩ := hO4.sl len_encP
    rw [← HM.out] at HO4 ⊢
    have hb3 : w2.heap.size < w3.heap.size := hB3.lt
    have hX4 := (hX2.trans hx3).trans hx4
    have hB34 := hB3.ext hx4
    have HO34 := Lib.hid (HO3.out.ext hx4)
    have hss : sumL q3 q3.length = sm := by
      rw [HSM.out, HQ3.out]
      exact tot_congr fun i hi => by rw [psOf_at' (rs := rs) HP3.out.symm hi]
    have HSS := Lib.hid hss
    have hhi : ∀ j, j < q3.length → blkOf (q3.getD j rgD) < w3.heap.size := fun j hj => (HO3.out.blk_lt hj).1
    have HHI := Lib.hid hhi
    clear hB3 hO4 hq3 hss hhi
    obtain ⟨mc, hmc0⟩ : ∃ mc, mc = maC (psOf rs) a b := ⟨_, rfl⟩
    rw [← hmc0]
    have HMC := Lib.hid hmc0
    clear hmc0
    have hmc : (mc != mc) = false := by simp
    go_wp2_with fail
    refine (l_eqP A4 A2 m c4 c2 (maP (psOf rs) a b) _ hS4 (hS2.ext (hx3.trans hx4)) HM.out (by omega)).mono ?_
    rintro e w5 ⟨rfl, hx5⟩
    go_wp2_with fail
    refine (l_toPointSS _ _ rs _ (h.ext (hX4.trans hx5)).sl (h.ext (hX4.trans hx5)).rg hl HS.out).mono ?_
    rintro e w6 ⟨q6, cs6, rfl, hq6, hp6, hB6, hc6, hO6, hx6⟩
    have HP6 := Lib.hid hp6
    have HC6 := Lib.hid hc6
    have HO6 := Lib.hid hO6
    clear hp6 hc6 hO6 hq6
    go_wp2_with fail
    refine (l_eqSS _ _ _ _ _ q3 q6 _ ((hB34.ext (hx5.trans hx6)).sl HC3.out len_encR) (hB6.sl HC6.out len_encR) (HO34.out.ext (hx5.trans hx6)).rings HO6.out.rings (by rw [HP3.out, HP6.out]) HQ3.out.symm hl).mono ?_
    rintro e w7 ⟨rfl, hx7⟩
    have hX47 : Ext w4 w7 := (hx5.trans hx6).trans hx7
    have hX27 : Ext w2 w7 := (hx3.trans hx4).trans hX47
    have hX7 := hX2.trans hX27
    have hS27 := hS2.ext hX27
    have hS47 := hS4.ext hX47
    have HO47 := Lib.hid (HO4.out.ext hX47)
    have hB37 := hB34.ext hX47
    have HO37 := Lib.hid (HO34.out.ext hX47)
    clear hS2 hS4 HO4 hB34 HO34 hB6
    go_wp2_with fail
    refine (l_markSS _ w3.heap.size _ _ _ q3 1 _ (hB37.sl HC3.out len_encR) HO37.out HQ3.out.symm (by rw [HQ3.out]; exact hl) (by rw [HSS.out]; exact hsum) (by omega) (by omega) HHI.out).mono ?_
    rintro e w8 ⟨rfl, hm8⟩
    rw [HSS.out]
    have hX8 : Ext w w8 := by
      refine ⟨hm8.os.trans hX7.os, hm8.tape.trans hX7.tape, hm8.output.trans hX7.output, Nat.le_trans hX7.size hm8.size, fun k hk => ?_⟩
      exact (hm8.block k (Nat.lt_of_lt_of_le hk hX7.size) (.inl (by omega))).trans (hX7.block k hk)
    have hS28 := hS27.mid hm8 (fun q hq => .inl (by have := hA2 q hq; omega))
    have hS48 := hS47.mid hm8 (fun q hq => .inr (by have := hA4 q hq; omega))
    have HO8 := Lib.hid (HO47.out.mid hm8 (Nat.le_refl _))
    have h8 := hm8.size
    clear hm8 hS27 hS47 HO47 HO37 hB37
    go_wp2_with fail
    refine (l_eqP A4 A2 m c4 c2 (maP (psOf rs) a b) _ hS48 hS28 HM.out (by omega)).mono ?_
    rintro e w9 ⟨rfl, hx9⟩
    have HO9 := Lib.hid (HO8.out.ext hx9)
    have hS29 := hS28.ext hx9
    have hX9 := hX8.trans hx9
    clear HO8 hS28 hS48
    go_wp2_with fail
    refine (l_markP _ _ _ m 1 _ HO9.out HM.out (by omega) (by omega) (by omega)).mono ?_
    rintro e w10 ⟨rfl, hO10, hg10⟩
    have hX10 : Ext w w10 := hX9.grown hg10 (fun q hq => by have := (HO9.out.row q hq).1; omega)
    have hS210 := hS29.grown hg10 (by intro q hq he; have := hA2 q hq; have := (HO9.out.row _ he.symm).1; omega)
    obtain ⟨_, _, e', hS410, _⟩ := hO10.sl len_encP
    injection e' with ea eb ec
    subst ea
    clear hg10 hS29 HO9 eb ec
    go_wp2_with fail
    refine (l_heldPointS _ m _ 1 _ hS410 (by omega) (by omega) (by omega)).mono ?_
    rintro e w10' ⟨rfl, rfl⟩
    go_wp2_with fail
    refine (l_toPointSS _ _ rs _ (h.ext hX10).sl (h.ext hX10).rg hl HS.out).mono ?_
    rintro e w11 ⟨q11, cs11, rfl, hq11, hp11, hB11, hc11, hO11, hx11⟩
    have HP11 := Lib.hid hp11
    have HC11 := Lib.hid hc11
    have HO11 := Lib.hid hO11
    clear hp11 hc11 hO11
    go_wp2_with fail
    rw [← hq11]
    refine (i_MergeAreas _ _ q11 a b _ (hB11.sl HC11.out len_encR) HO11.out.rings (by omega) (Nat.le_refl _)).mono ?_
    rintro e w12 ⟨v12, rfl, hO12, hx12⟩
    rw [HP11.out] at hO12 ⊢
    obtain ⟨A12, c12, rfl, hS12, _, _, hA12⟩ := hO12.sl len_encP
    rw [← HM.out, ← HMC.out]
    clear hO12 hq11 hB11
    go_wp2_with fail
    refine (l_eqP A12 A2 m c12 c2 (maP (psOf rs) a b) _ hS12 (hS210.ext (hx11.trans hx12)) HM.out (by omega)).mono ?_
    rintro e w13 ⟨rfl, hx13⟩
    go_wp2_with fail
    refine (l_heldPointS _ m _ 1 _ (hS410.ext ((hx11.trans hx12).trans hx13)) (by omega) (by omega) (by omega)).mono ?_
    rintro e w14 ⟨rfl, rfl⟩
    go_wp2
    go_ret
    exact ⟨rfl, ((hX10.trans hx11).trans hx12).trans hx13⟩

end Go.Proofs.Yteppjdoggjcdoaa
