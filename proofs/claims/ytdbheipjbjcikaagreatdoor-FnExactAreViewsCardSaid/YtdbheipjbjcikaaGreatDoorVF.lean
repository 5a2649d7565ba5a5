/- The law of AreViews, walked over the translation. -/
import Derived.Test.YtdbheipjbjcikaaGreatDoorV1
import Derived.Deep.RegionHeld3
import Derived.Deep.DeepCutAuto
import Derived.RegionTactic
import Derived.BigRegion
import Derived.WalkLawsBesides
import Derived.WalkSpells
import Derived.Lib.MinMax
import Derived.Outline
namespace Go.Proofs.YtdbheipjbjcikaaGreatDoor
open Go.RowKit
attribute [local go_sem] ExtOf.cell ExtOf.frozen

theorem s_AreViews' (A A' : Option Addr) (n m c c' : Nat) (rs : List Rg) (vs : List Vw) (w : World) (h : SlAt w 1 encR A rs) (hr : Rings w rs) (hl : rs.length ≤ 1048576) (h' : SlAt w 2 encV A' vs) (hv : Views w vs) (hl' : vs.length ≤ 1048576) (hn : n = rs.length) (hm : m = vs.length) :
    Calls Tryz.prog 31 #[.slice A n c, .slice A' m c'] w fun e w' => e = .returned (.bool (viB (psOf rs) (voOf vs))) ∧ Ext w w' := by
  subst hn hm
  exact s_AreViews A A' c c' rs vs  w h hr hl h' hv hl'

theorem i_AreViews' (A A' : Option Addr) (n m c c' : Nat) (rs : List Rg) (vs : List Vw) (w : World) (h : SlAt w 1 encR A rs) (hr : Rings w rs) (hl : rs.length ≤ 1048576) (hc : rs.length ≤ c) (h' : SlAt w 2 encV A' vs) (hv : Views w vs) (hl' : vs.length ≤ 1048576) (hn : n = rs.length) (hm : m = vs.length) :
    Calls Tryz.prog 34 #[.slice A n c, .slice A' m c'] w fun e w' => e = .returned (.bool (viB (psOf rs) (voOf vs))) ∧ Ext w w' := by
  subst hn hm
  exact i_AreViews A A' c c' rs vs  w h hr hl hc h' hv hl'

set_option maxRecDepth 20000 in
set_option maxHeartbeats 6400000 in
theorem fnExactAreViews_walk (A : Option Addr) (c : Nat) (rs : List Rg) (A' : Option Addr) (c' : Nat) (vs : List Vw) (w : World) (h : ArgR w A rs) (h' : ArgV w A' vs) :
    Calls Tryz.prog 6 #[.slice A rs.length c, .slice A' vs.length c'] w fun e w' => e = .returned (.bool true) ∧ Ext w w' := by
  go_enter Tryz.func6, Tryz.ntmps6
  go_wp2_with fail
  refine (l_szPointSS _ _ rs 1048576 _ h.sl h.len h.lens (by omega) (by omega)).mono ?_
  rintro e w' ⟨⟨z, rfl, hz1, hz⟩, rfl⟩
  rcases hz with rfl | ⟨hz0, hl, hs, _⟩
  · go_wp2
    go_ret
    exact ⟨rfl, Ext.refl _⟩
  have HS := Lib.hid hs
  clear hs
  go_wp2_with fail
  refine (l_szViewS _ _ vs z _ h'.sl h'.len h'.rg hz0 hz1).mono ?_
  rintro e w0 ⟨⟨z2, rfl, hz2, hzz⟩, hx0⟩
  rcases hzz with rfl | ⟨hz3, hvl, hg⟩
  · go_wp2
    go_ret
    exact ⟨rfl, hx0⟩
  · have HG := Lib.hid hg
    clear hg
    go_wp2_with fail
    refine (l_toPointSS _ _ rs _ (h.ext hx0).sl (h.ext hx0).rg hl HS.out).mono ?_
    rintro e w1 ⟨q1, cs1, rfl, hq1, hp1, hB1, hc1, hO1, hx1⟩
    have HP1 := Lib.hid hp1
    have HC1 := Lib.hid hc1
    have HQ1 := Lib.hid hq1
    have HO1 := Lib.hid hO1
    have HB1 := Lib.hid hB1
    clear hp1 hc1 hO1 hq1 hB1
    go_wp2_with fail
    refine (l_toViewS _ _ vs _ (h'.ext (hx0.trans hx1)).sl (fun i hi => ((h'.ext (hx0.trans hx1)).rg i hi).1) hvl HG.out).mono ?_
    rintro e w2 ⟨q2, cs2, rfl, hq2, hp2, hB2, hc2, hO2, hx2⟩
    have HP2 := Lib.hid hp2
    have HC2 := Lib.hid hc2
    have HQ2 := Lib.hid hq2
    have HO2 := Lib.hid hO2
    have HB2 := Lib.hid hB2
    clear hp2 hc2 hO2 hq2 hB2
    go_wp2_with fail
    refine (s_AreViews' _ _ rs.length vs.length _ _ q1 q2 _ ((HB1.out.ext hx2).sl HC1.out len_encR) (HO1.out.ext hx2).rings (by rw [HQ1.out]; exact hl) (HB2.out.sl HC2.out len_encV) HO2.out.views (by rw [HQ2.out]; exact hvl) HQ1.out.symm HQ2.out.symm).mono ?_
    rw [HP1.out, HP2.out]
    rintro e w3 ⟨rfl, hx3⟩
    have hX3 := ((hx0.trans hx1).trans hx2).trans hx3
    go_wp2_with fail
    refine (l_toPointSS _ _ rs _ (h.ext hX3).sl (h.ext hX3).rg hl HS.out).mono ?_
    rintro e w4 ⟨q4, cs4, rfl, hq4, hp4, hB4, hc4, hO4, hx4⟩
    have HP4 := Lib.hid hp4
    have HC4 := Lib.hid hc4
    have HQ4 := Lib.hid hq4
    have HO4 := Lib.hid hO4
    have HB4 := Lib.hid hB4
    clear hp4 hc4 hO4 hq4 hB4
    go_wp2_with fail
    refine (l_toViewS _ _ vs _ (h'.ext (hX3.trans hx4)).sl (fun i hi => ((h'.ext (hX3.trans hx4)).rg i hi).1) hvl HG.out).mono ?_
    rintro e w5 ⟨q5, cs5, rfl, hq5, hp5, hB5, hc5, hO5, hx5⟩
    have HP5 := Lib.hid hp5
    have HC5 := Lib.hid hc5
    have HQ5 := Lib.hid hq5
    have HO5 := Lib.hid hO5
    have HB5 := Lib.hid hB5
    clear hp5 hc5 hO5 hq5 hB5
    go_wp2_with fail
    refine (i_AreViews' _ _ rs.length vs.length _ _ q4 q5 _ ((HB4.out.ext hx5).sl HC4.out len_encR) (HO4.out.ext hx5).rings (by rw [HQ4.out]; exact hl) (by rw [HQ4.out]; exact Nat.le_refl _) (HB5.out.sl HC5.out len_encV) HO5.out.views (by rw [HQ5.out]; exact hvl) HQ4.out.symm HQ5.out.symm).mono ?_
    rw [HP4.out, HP5.out]
    rintro e w6 ⟨rfl, hx6⟩
    have hX6 := ((hX3.trans hx4).trans hx5).trans hx6
    generalize viB (psOf rs) (voOf vs) = vb
    have hvb : (vb != vb) = false := by simp
    go_wp2_with fail
    refine (l_toPointSS _ _ rs _ (h.ext hX6).sl (h.ext hX6).rg hl HS.out).mono ?_
    rintro e w7 ⟨q7, cs7, rfl, hq7, hp7, hB7, hc7, hO7, hx7⟩
    have HP7 := Lib.hid hp7
    have HC7 := Lib.hid hc7
    have HQ7 := Lib.hid hq7
    have HO7 := Lib.hid hO7
    have HB7 := Lib.hid hB7
    clear hp7 hc7 hO7 hq7 hB7
    go_wp2_with fail
    refine (l_eqSS _ _ _ _ _ q4 q7 _ (((HB4.out.ext hx5).ext hx6).ext hx7 |>.sl HC4.out len_encR) (HB7.out.sl HC7.out len_encR) (((HO4.out.ext hx5).ext hx6).ext hx7).rings HO7.out.rings (by rw [HP4.out, HP7.out]) HQ4.out.symm hl).mono ?_
    rintro e w8 ⟨rfl, hx8⟩
    go_wp2_with fail
    refine (l_toViewS _ _ vs _ (h'.ext ((hX6.trans hx7).trans hx8)).sl (fun i hi => ((h'.ext ((hX6.trans hx7).trans hx8)).rg i hi).1) hvl HG.out).mono ?_
    rintro e w9 ⟨q9, cs9, rfl, hq9, hp9, hB9, hc9, hO9, hx9⟩
    have HP9 := Lib.hid hp9
    have HC9 := Lib.hid hc9
    have HQ9 := Lib.hid hq9
    have HO9 := Lib.hid hO9
    have HB9 := Lib.hid hB9
    clear hp9 hc9 hO9 hq9 hB9
    go_wp2_with fail
    refine (l_eqViewS _ _ _ _ _ q5 q9 _ ((((HB5.out.ext hx6).ext hx7).ext hx8).ext hx9 |>.sl HC5.out len_encV) (HB9.out.sl HC9.out len_encV) ((((HO5.out.ext hx6).ext hx7).ext hx8).ext hx9).views HO9.out.views (by rw [HP5.out, HP9.out]) HQ5.out.symm hvl).mono ?_
    rintro e w10 ⟨rfl, hx10⟩
    go_wp2
    go_ret
    exact ⟨rfl, (((hX6.trans hx7).trans hx8).trans hx9).trans hx10⟩

end Go.Proofs.YtdbheipjbjcikaaGreatDoor
