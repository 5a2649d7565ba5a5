/- The law of OwnersAt, walked over the translation. -/
import Derived.Test.YtabdffponmmhoaaGreatDoorVN
import Derived.Deep.RegionHeld3
import Derived.Deep.DeepCutAuto
import Derived.RegionTactic
import Derived.BigRegion
import Derived.WalkLawsBesides
import Derived.WalkSpells
import Derived.Lib.MinMax
import Derived.Outline
namespace Go.Proofs.YtabdffponmmhoaaGreatDoor
open Go.RowKit
attribute [local go_sem] ExtOf.cell ExtOf.frozen

theorem s_OwnersAt' {rs : List Rg} {vs : List Vw} {x z cd : Int} {m : Nat} (hcd : cd = atC (psOf rs) (voOf vs) x z) (hm : m = (atR (psOf rs) (voOf vs) x z).length) (A A' : Option Addr) (c c' : Nat) (q : List Rg) (u : List Vw) (w : World) (h : SlAt w 1 encR A q) (hr : Rings w q) (hq : q.length = rs.length) (hp : psOf q = psOf rs) (hl : rs.length ≤ 1048576) (h' : SlAt w 2 encV A' u) (hv : Views w u) (hq' : u.length = vs.length) (hp' : voOf u = voOf vs) (hl' : vs.length ≤ 1048576) :
    Calls Tryz.prog 7 #[.slice A rs.length c, .slice A' vs.length c', .agg #[.int .i64 x, .int .i64 z]] w fun e w' => ∃ (B : Option Addr) (b : Nat), e = .returned (.tuple #[.slice B m b, .int .i64 cd]) ∧ OwS w' w.heap.size (.slice B m b) (atR (psOf rs) (voOf vs) x z) ∧ SlAt w' 1 encS B (atR (psOf rs) (voOf vs) x z) ∧ (∀ q, B = some q → w.heap.size ≤ q.block ∧ q.block < w'.heap.size) ∧ Ext w w' := by
  have := s_OwnersAt A A' c c' q u x z w h hr (by rw [hq]; exact hl) h' hv (by rw [hq']; exact hl')
  rw [hq, hq', hp, hp', ← hcd] at this
  refine this.mono ?_
  rintro e w' ⟨v, rfl, hO, hx⟩
  obtain ⟨B, b, rfl, hS, _, _, hB⟩ := hO.sl len_encS
  rw [← hm] at hO ⊢
  exact ⟨B, b, rfl, hO, hS, hB, hx⟩

theorem i_OwnersAt' {rs : List Rg} {vs : List Vw} {x z cd : Int} {m : Nat} (hcd : cd = atC (psOf rs) (voOf vs) x z) (hm : m = (atR (psOf rs) (voOf vs) x z).length) (A A' : Option Addr) (c c' : Nat) (q : List Rg) (u : List Vw) (w : World) (h : SlAt w 1 encR A q) (hr : Rings w q) (hq : q.length = rs.length) (hp : psOf q = psOf rs) (hl : rs.length ≤ 1048576) (hc : rs.length ≤ c) (h' : SlAt w 2 encV A' u) (hv : Views w u) (hq' : u.length = vs.length) (hp' : voOf u = voOf vs) (hl' : vs.length ≤ 1048576) :
    Calls Tryz.prog 11 #[.slice A rs.length c, .slice A' vs.length c', .agg #[.int .i64 x, .int .i64 z]] w fun e w' => ∃ (B : Option Addr) (b : Nat), e = .returned (.tuple #[.slice B m b, .int .i64 cd]) ∧ OwS w' w.heap.size (.slice B m b) (atR (psOf rs) (voOf vs) x z) ∧ SlAt w' 1 encS B (atR (psOf rs) (voOf vs) x z) ∧ (∀ q, B = some q → w.heap.size ≤ q.block ∧ q.block < w'.heap.size) ∧ Ext w w' := by
  have := i_OwnersAt A A' c c' q u x z w h hr (by rw [hq]; exact hl) (by rw [hq]; exact hc) h' hv (by rw [hq']; exact hl')
  rw [hq, hq', hp, hp', ← hcd] at this
  refine this.mono ?_
  rintro e w' ⟨v, rfl, hO, hx⟩
  obtain ⟨B, b, rfl, hS, _, _, hB⟩ := hO.sl len_encS
  rw [← hm] at hO ⊢
  exact ⟨B, b, rfl, hO, hS, hB, hx⟩

set_option maxRecDepth 20000 in
set_option maxHeartbeats 12800000 in
theorem fnExactOwnersAt_walk (A : Option Addr) (c : Nat) (rs : List Rg) (A' : Option Addr) (c' : Nat) (vs : List Vw) (x z : Int) (w : World) (h : ArgR w A rs) (h' : ArgV w A' vs) :
    Calls Tryz.prog 3 #[.slice A rs.length c, .slice A' vs.length c', .agg #[.int .i64 x, .int .i64 z]] w fun e w' => e = .returned (.bool true) ∧ Ext w w' := by
  go_enter Tryz.func3, Tryz.ntmps3
  go_wp2_with fail
  have hw0 : Ext w (w.alloc (.cells #[.int .i64 x, .int .i64 z] 25)) := (Ext.refl w).alloc _
  refine (l_szPointSS _ _ rs 1048576 _ (h.ext hw0).sl (h.ext hw0).len (h.ext hw0).lens (by omega) (by omega)).mono ?_
  rintro e w' ⟨⟨zz, rfl, hz1, hz⟩, rfl⟩
  rcases hz with rfl | ⟨hz0, hl, hs, hsum⟩
  · go_wp2
    go_ret
    exact ⟨rfl, hw0⟩
  have HS := Lib.hid hs
  have HSUM := Lib.hid hsum
  clear hs hsum
  go_wp2_with fail
  refine (l_szViewS _ _ vs zz _ (h'.ext hw0).sl (h'.ext hw0).len (h'.ext hw0).rg hz0 hz1).mono ?_
  rintro e w0 ⟨⟨z2, rfl, hz2, hzz⟩, hx0'⟩
  have hx0 : Ext w w0 := hw0.trans hx0'
  have hB0 : Blk w0 w.heap.size 25 #[.int .i64 x, .int .i64 z] := (Blk.new rfl).ext hx0'
  have hbk := hB0.lt
  have HBK := Lib.hid hB0
  clear hx0' hB0 hw0
  rcases hzz with rfl | ⟨hz3, hvl, hg⟩
  · go_wp2
    go_ret
    exact ⟨rfl, hx0⟩
  · have HG := Lib.hid hg
    obtain ⟨cd, hcd⟩ : ∃ cd, cd = atC (psOf rs) (voOf vs) x z := ⟨_, rfl⟩
    have HCD := Lib.hid hcd
    have hcc : (cd != cd) = false := by simp
    obtain ⟨m, hm⟩ : ∃ m, m = (atR (psOf rs) (voOf vs) x z).length := ⟨_, rfl⟩
    have hml : m ≤ 1000 := by rw [hm]; have := atR_len (psOf rs) (voOf vs) x z; omega
    have HM := Lib.hid hm
    have hm0 : ¬ (((1 + m : Nat) : Int) < 0) := by omega
    have hm1 : ((((1 + m : Nat) : Int)) != ((1 + m : Nat) : Int)) = false := by simp
    clear hg hcd hm
    have hBs := HBK.out
    have hsa := hBs.cell 0
    have hsb := hBs.cell 1
    have hst : w.heap.size < w0.heap.size := hBs.lt
    clear hBs
    go_wp2_with fail
    go_region_held3 (fun w' => w'.cell? ⟨w.heap.size, 0, none⟩ = some (.int .i64 x) ∧ w'.cell? ⟨w.heap.size, 1, none⟩ = some (.int .i64 z)) (go_keep) (first | (go_at_call 8; refine (l_toPointSS _ _ rs _ (by exact (h.ext hx0).sl) (by exact (h.ext hx0).rg) hl HS.out).mono ?_; rintro e w1 ⟨q1, cs1, rfl, hq1, hp1, hB1, hc1, hO1, hx1'⟩; have hx1 : Ext w0 w1 := Ext.trans (by (repeat (first | with_reducible exact Ext.refl _ | with_reducible assumption | ((with_reducible apply Src.ext); with_reducible assumption) | with_reducible refine Ext.alloc ?_ _ | with_reducible refine Ext.drew ?_ | with_reducible refine Ext.drewN ?_ _ | ((with_reducible refine Ext.setCell' ?_ ?_ _); solve | omega | simp | (simp; omega)) | (with_reducible refine Ext.trans ?_ (by with_reducible assumption))))) hx1'; clear hx1'; have HP1 := Lib.hid hp1; have HC1 := Lib.hid hc1; have HQ1 := Lib.hid hq1; have HO1 := Lib.hid hO1; have HB1 := Lib.hid hB1; clear hp1 hc1 hO1 hq1 hB1; obtain ⟨raw1, rbw1⟩ := hx1.rules; have rsw1 := hx1.size; have rtw1 : w.heap.size < w1.heap.size := by omega) | (go_at_call 9; refine (l_toViewS _ _ vs _ (by exact (h'.ext (hx0.trans hx1)).sl) (by exact (fun i hi => ((h'.ext (hx0.trans hx1)).rg i hi).1)) hvl HG.out).mono ?_; rintro e w2 ⟨q2, cs2, rfl, hq2, hp2, hB2, hc2, hO2, hx2'⟩; have hx2 : Ext w1 w2 := Ext.trans (by (repeat (first | with_reducible exact Ext.refl _ | with_reducible assumption | ((with_reducible apply Src.ext); with_reducible assumption) | with_reducible refine Ext.alloc ?_ _ | with_reducible refine Ext.drew ?_ | with_reducible refine Ext.drewN ?_ _ | ((with_reducible refine Ext.setCell' ?_ ?_ _); solve | omega | simp | (simp; omega)) | (with_reducible refine Ext.trans ?_ (by with_reducible assumption))))) hx2'; clear hx2'; have HP2 := Lib.hid hp2; have HC2 := Lib.hid hc2; have HQ2 := Lib.hid hq2; have HO2 := Lib.hid hO2; have HB2 := Lib.hid hB2; clear hp2 hc2 hO2 hq2 hB2; obtain ⟨raw2, rbw2⟩ := hx2.rules; have rsw2 := hx2.size; have rtw2 : w.heap.size < w2.heap.size := by omega) | (go_at_call 10; refine (l_toPoint _ _ _).mono ?_; rintro e wp3 ⟨rfl, hp3'⟩; have hp3 : Ext w2 wp3 := Ext.trans (by (repeat (first | with_reducible exact Ext.refl _ | with_reducible assumption | ((with_reducible apply Src.ext); with_reducible assumption) | with_reducible refine Ext.alloc ?_ _ | with_reducible refine Ext.drew ?_ | with_reducible refine Ext.drewN ?_ _ | ((with_reducible refine Ext.setCell' ?_ ?_ _); solve | omega | simp | (simp; omega)) | (with_reducible refine Ext.trans ?_ (by with_reducible assumption))))) hp3'; clear hp3'; obtain ⟨rawp3, rbwp3⟩ := hp3.rules; have rswp3 := hp3.size; have rtwp3 : w.heap.size < wp3.heap.size := by omega) | (go_at_call 7; refine (s_OwnersAt' HCD.out HM.out _ _ _ _ q1 q2 _ (by exact ((HB1.out.ext hx2).ext hp3).sl HC1.out len_encR) (by exact ((HO1.out.ext hx2).ext hp3).rings) HQ1.out HP1.out hl (by exact (HB2.out.ext hp3).sl HC2.out len_encV) (by exact (HO2.out.ext hp3).views) HQ2.out HP2.out hvl).mono ?_; rintro e w3 ⟨A3, c3, rfl, hO3, hS3, hA3, hx3'⟩; have hpp3 : wp3.heap.size ≤ w3.heap.size := hx3'.size; have hx3 : Ext w2 w3 := hp3.trans (Ext.trans (by (repeat (first | with_reducible exact Ext.refl _ | with_reducible assumption | ((with_reducible apply Src.ext); with_reducible assumption) | with_reducible refine Ext.alloc ?_ _ | with_reducible refine Ext.drew ?_ | with_reducible refine Ext.drewN ?_ _ | ((with_reducible refine Ext.setCell' ?_ ?_ _); solve | omega | simp | (simp; omega)) | (with_reducible refine Ext.trans ?_ (by with_reducible assumption))))) hx3'); have HO3 : Hid (OwS w3 w2.heap.size (.slice A3 m c3) (atR (psOf rs) (voOf vs) x z)) := Lib.hid (Own.less hO3 hp3.size); have HA3 : Hid (∀ q, A3 = some q → w2.heap.size ≤ q.block ∧ q.block < w3.heap.size) := Lib.hid fun q hq => ⟨Nat.le_trans hp3.size (hA3 q hq).1, (hA3 q hq).2⟩; clear hO3 hA3 hx3'; obtain ⟨raw3, rbw3⟩ := hx3.rules; have rsw3 := hx3.size; have rtw3 : w.heap.size < w3.heap.size := by omega))
    clear hsa hsb hst hp3 rawp3 rbwp3 rswp3 rtwp3 hpp3 raw1 rbw1 rsw1 rtw1 raw2 rbw2 rsw2 rtw2 raw3 rbw3 rsw3 rtw3
    have hX3 := ((hx0.trans hx1).trans hx2).trans hx3
    have hs3 : w.heap.size ≤ w3.heap.size := hX3.size
    go_wp2_with fail
    refine (l_toPointSS _ _ rs _ (h.ext hX3).sl (h.ext hX3).rg hl HS.out).mono ?_
    rintro e w4 ⟨q4, cs4, rfl, hq4, hp4, hB4, hc4, hO4, hx4⟩
    have HP4 := Lib.hid hp4
    have HC4 := Lib.hid hc4
    have HQ4 := Lib.hid hq4
    have HO4 := Lib.hid hO4
    have HB4 := Lib.hid hB4
    clear hp4 hc4 hO4 hq4 hB4
    go_wp2_with fail
    refine (l_toViewS _ _ vs _ (h'.ext (hX3.trans hx4)).sl (fun i hi => ((h'.ext (hX3.trans hx4)).rg i hi).1) hvl HG.out).mono ?_
    rintro e w5 ⟨q5, cs5, rfl, hq5, hp5, hB5, hc5, hO5, hx5⟩
    have HP5 := Lib.hid hp5
    have HC5 := Lib.hid hc5
    have HQ5 := Lib.hid hq5
    have HO5 := Lib.hid hO5
    have HB5 := Lib.hid hB5
    clear hp5 hc5 hO5 hq5 hB5
    have hB5w := HBK.out.ext ((((hx1.trans hx2).trans hx3).trans hx4).trans hx5)
    have hl6a := hB5w.cell 0
    have hl6b := hB5w.cell 1
    go_wp2_with fail
    refine (l_toPoint _ _ _).mono ?_
    rintro e wp6 ⟨rfl, hp6⟩
    clear hB5w hl6a hl6b
    go_wp2_with fail
    refine (i_OwnersAt' HCD.out HM.out _ _ _ _ q4 q5 _ (((HB4.out.ext hx5).ext hp6).sl HC4.out len_encR) ((HO4.out.ext hx5).ext hp6).rings HQ4.out HP4.out hl (Nat.le_refl _) ((HB5.out.ext hp6).sl HC5.out len_encV) (HO5.out.ext hp6).views HQ5.out HP5.out hvl).mono ?_
    rintro e w6 ⟨A6, c6, rfl, hO6, hS6, hA6, hx6'⟩
    have hx6 := hp6.trans hx6'
    have HO6 := Lib.hid (hO6.less hp6.size)
    have HA6 : Hid (∀ q, A6 = some q → w5.heap.size ≤ q.block ∧ q.block < w6.heap.size) := Lib.hid fun q hq => ⟨Nat.le_trans hp6.size (hA6 q hq).1, (hA6 q hq).2⟩
    clear hO6 hA6 hx6' hp6
    have hX6 := ((hX3.trans hx4).trans hx5).trans hx6
    go_wp2_with fail
    refine (l_eqS A6 A3 m c6 c3 (atR (psOf rs) (voOf vs) x z) _ hS6 (hS3.ext ((hx4.trans hx5).trans hx6)) HM.out (by omega)).mono ?_
    rintro e w7 ⟨rfl, hx7⟩
    have hX7 := hX6.trans hx7
    go_wp2_with fail
    refine (l_toPointSS _ _ rs _ (h.ext hX7).sl (h.ext hX7).rg hl HS.out).mono ?_
    rintro e w8 ⟨q8, cs8, rfl, hq8, hp8, hB8, hc8, hO8, hx8⟩
    have HP8 := Lib.hid hp8
    have HC8 := Lib.hid hc8
    have HQ8 := Lib.hid hq8
    have HO8 := Lib.hid hO8
    have HB8 := Lib.hid hB8
    clear hp8 hc8 hO8 hq8 hB8
    go_wp2_with fail
    refine (l_eqSS _ _ _ _ _ q4 q8 _ ((((HB4.out.ext hx5).ext hx6).ext hx7).ext hx8 |>.sl HC4.out len_encR) (HB8.out.sl HC8.out len_encR) ((((HO4.out.ext hx5).ext hx6).ext hx7).ext hx8).rings HO8.out.rings (by rw [HP4.out, HP8.out]) HQ4.out.symm hl).mono ?_
    rintro e w9 ⟨rfl, hx9⟩
    go_wp2_with fail
    refine (l_toViewS _ _ vs _ (h'.ext ((hX7.trans hx8).trans hx9)).sl (fun i hi => ((h'.ext ((hX7.trans hx8).trans hx9)).rg i hi).1) hvl HG.out).mono ?_
    rintro e w10 ⟨q10, cs10, rfl, hq10, hp10, hB10, hc10, hO10, hx10⟩
    have HP10 := Lib.hid hp10
    have HC10 := Lib.hid hc10
    have HQ10 := Lib.hid hq10
    have HO10 := Lib.hid hO10
    have HB10 := Lib.hid hB10
    clear hp10 hc10 hO10 hq10 hB10
    go_wp2_with fail
    refine (l_eqViewS _ _ _ _ _ q5 q10 _ (((((HB5.out.ext hx6).ext hx7).ext hx8).ext hx9).ext hx10 |>.sl HC5.out len_encV) (HB10.out.sl HC10.out len_encV) (((((HO5.out.ext hx6).ext hx7).ext hx8).ext hx9).ext hx10).views HO10.out.views (by rw [HP5.out, HP10.out]) HQ5.out.symm hvl).mono ?_
    rintro e w11 ⟨rfl, hx11⟩
    have hX611 : Ext w6 w11 := (((hx7.trans hx8).trans hx9).trans hx10).trans hx11
    have hX511 : Ext w5 w11 := hx6.trans hX611
    have hX411 : Ext w4 w11 := hx5.trans hX511
    have hX311 : Ext w3 w11 := hx4.trans hX411
    have hX11 : Ext w w11 := hX6.trans hX611
    have Y11 : Ext w0 w11 := ((hx1.trans hx2).trans hx3).trans hX311
    have hs03 := ((hx1.trans hx2).trans hx3).size
    have hs05 := ((((hx1.trans hx2).trans hx3).trans hx4).trans hx5).size
    have hS311 := hS3.ext hX311
    have hS611 := hS6.ext hX611
    have HO611 := Lib.hid (HO6.out.ext hX611)
    have HB411 := Lib.hid (HB4.out.ext hX411)
    have HO411 := Lib.hid (HO4.out.ext hX411)
    have HB511 := Lib.hid (HB5.out.ext hX511)
    have HO511 := Lib.hid (HO5.out.ext hX511)
    have hb4 : w3.heap.size < w4.heap.size := HB4.out.lt
    have hb5 : w4.heap.size < w5.heap.size := HB5.out.lt
    have hsmb := HSUM.out
    have hsm0 := sumL_nonneg rs rs.length
    have hss : sumL q4 q4.length = sumL rs rs.length := by
      rw [HQ4.out]
      exact tot_congr fun i hi => by rw [psOf_at' (rs := rs) HP4.out.symm hi]
    have HSS := Lib.hid hss
    clear hss
    generalize hsme : sumL rs rs.length = sm at *
    obtain ⟨sn, rfl⟩ : ∃ sn : Nat, sm = (sn : Int) := ⟨sm.toNat, by omega⟩
    have HH4 : Hid (∀ j, j < q4.length → blkOf (q4.getD j rgD) < w4.heap.size) := Lib.hid fun j hj => (HO4.out.blk_lt hj).1
    have HH5 : Hid (∀ j, j < q5.length → blkV (q5.getD j vwD) < w5.heap.size) := Lib.hid fun j hj => (HO5.out.blk_lt hj).1
    have h611 := hX611.size
    have h56 := hx6.size
    clear HO6 hS6 hS3 HB4 HO4 HB5 HO5
    go_wp2_with fail
    refine (l_markSS _ w4.heap.size _ _ _ q4 1 _ (HB411.out.sl HC4.out len_encR) HO411.out HQ4.out.symm (by rw [HQ4.out]; exact hl) (by rw [HSS.out]; omega) (by omega) (by omega) HH4.out).mono ?_
    rw [HSS.out, show (1 : Int) + 2 * (sn : Int) = ((1 + 2 * sn : Nat) : Int) by omega]
    rintro e w12 ⟨rfl, hm12⟩
    have hb12 : Btw w3.heap.size w4.heap.size w11 w12 := hm12.btw
    have HB512 := Lib.hid (HB511.out.btw hb12 (.inr (Nat.le_refl _)))
    have HO512 := Lib.hid (HO511.out.mono fun g t cs hg hB => hB.btw hb12 (.inr (by omega)))
    have h1112 := hb12.size
    have hB11 : Btw w3.heap.size w5.heap.size w11 w12 := ⟨hb12.os, hb12.tape, hb12.output, hb12.size, fun k hk hc => hb12.block k hk (by omega)⟩
    have HBA := Lib.hid hB11
    clear hm12 hb12 hB11 HB411 HO411 HB511 HO511
    go_wp2_with fail
    refine (l_markViewS w4.heap.size w5.heap.size _ _ _ (1 + 2 * sn) q5 _ _ HB512.out HC5.out HO512.out HQ5.out.symm (by omega) (by omega) (by omega) (Nat.le_refl _) hb5 HH5.out).mono ?_
    rintro e w13 ⟨zz, rfl, hzz, hb13⟩
    have hzn : ¬ ((zz : Int) < 0) := by omega
    have hBW : Btw w3.heap.size w5.heap.size w11 w13 := HBA.out.trans ⟨hb13.os, hb13.tape, hb13.output, hb13.size, fun k hk hc => hb13.block k hk (by omega)⟩
    have hX13 : Ext w w13 := hBW.ext hX11 (by omega)
    have Y13 : Ext w0 w13 := hBW.ext Y11 (by omega)
    have hS313 := hS311.btw hBW (fun q hq => .inl (by have := HA3.out q hq; omega))
    have hS613 := hS611.btw hBW (fun q hq => .inr (by have := HA6.out q hq; omega))
    have HO13 := Lib.hid (HO611.out.btw hBW (Nat.le_refl _))
    have h1113 := hBW.size
    clear hb13 hBW HB512 HO512 hS311 hS611 HO611 HBA
    go_wp2_with fail
    refine (l_eqS A6 A3 m c6 c3 (atR (psOf rs) (voOf vs) x z) _ hS613 hS313 HM.out (by omega)).mono ?_
    rintro e w14 ⟨rfl, hx14⟩
    have HO14 := Lib.hid (HO13.out.ext hx14)
    have hS314 := hS313.ext hx14
    have hX14 := hX13.trans hx14
    have Y14 := Y13.trans hx14
    clear HO13 hS313 hS613
    go_wp2_with fail
    refine (l_markS _ _ _ m 1 _ HO14.out HM.out (by omega) (by omega) (by omega)).mono ?_
    rintro e w15 ⟨rfl, hO15, hg15⟩
    have hX15 : Ext w w15 := hX14.grown hg15 (fun q hq => by have := (HO14.out.row q hq).1; omega)
    have Y15 : Ext w0 w15 := Y14.grown hg15 (fun q hq => by have := (HO14.out.row q hq).1; omega)
    have hS315 := hS314.grown hg15 (by intro q hq he; have := HA3.out q hq; have := (HO14.out.row _ he.symm).1; omega)
    obtain ⟨_, _, e', hS615, _⟩ := hO15.sl len_encS
    injection e' with ea eb ec
    subst ea
    clear hg15 hS314 HO14 eb ec hO15
    go_wp2_with fail
    refine (l_heldS _ m _ 1 _ hS615 (by omega) (by omega) (by omega)).mono ?_
    rintro e w16 ⟨rfl, hx16⟩
    have hX16 := hX15.trans hx16
    have Y16 := Y15.trans hx16
    have hBs := HBK.out.ext Y16
    have hsa := hBs.cell 0
    have hsb := hBs.cell 1
    have hst : w.heap.size < w16.heap.size := hBs.lt
    clear hBs
    go_wp2_with fail
    go_region_held3 (fun w' => w'.cell? ⟨w.heap.size, 0, none⟩ = some (.int .i64 x) ∧ w'.cell? ⟨w.heap.size, 1, none⟩ = some (.int .i64 z)) (go_keep) (first | (go_at_call 8; refine (l_toPointSS _ _ rs _ (by exact (h.ext hX16).sl) (by exact (h.ext hX16).rg) hl HS.out).mono ?_; rintro e w17 ⟨q17, cs17, rfl, hq17, hp17, hB17, hc17, hO17, hx17'⟩; have hx17 : Ext w16 w17 := Ext.trans (by (repeat (first | with_reducible exact Ext.refl _ | with_reducible assumption | ((with_reducible apply Src.ext); with_reducible assumption) | with_reducible refine Ext.alloc ?_ _ | with_reducible refine Ext.drew ?_ | with_reducible refine Ext.drewN ?_ _ | ((with_reducible refine Ext.setCell' ?_ ?_ _); solve | omega | simp | (simp; omega)) | (with_reducible refine Ext.trans ?_ (by with_reducible assumption))))) hx17'; clear hx17'; have HP17 := Lib.hid hp17; have HC17 := Lib.hid hc17; have HQ17 := Lib.hid hq17; have HO17 := Lib.hid hO17; have HB17 := Lib.hid hB17; clear hp17 hc17 hO17 hq17 hB17; obtain ⟨raw17, rbw17⟩ := hx17.rules; have rsw17 := hx17.size; have rtw17 : w.heap.size < w17.heap.size := by omega) | (go_at_call 9; refine (l_toViewS _ _ vs _ (by exact (h'.ext (hX16.trans hx17)).sl) (by exact (fun i hi => ((h'.ext (hX16.trans hx17)).rg i hi).1)) hvl HG.out).mono ?_; rintro e w18 ⟨q18, cs18, rfl, hq18, hp18, hB18, hc18, hO18, hx18'⟩; have hx18 : Ext w17 w18 := Ext.trans (by (repeat (first | with_reducible exact Ext.refl _ | with_reducible assumption | ((with_reducible apply Src.ext); with_reducible assumption) | with_reducible refine Ext.alloc ?_ _ | with_reducible refine Ext.drew ?_ | with_reducible refine Ext.drewN ?_ _ | ((with_reducible refine Ext.setCell' ?_ ?_ _); solve | omega | simp | (simp; omega)) | (with_reducible refine Ext.trans ?_ (by with_reducible assumption))))) hx18'; clear hx18'; have HP18 := Lib.hid hp18; have HC18 := Lib.hid hc18; have HQ18 := Lib.hid hq18; have HO18 := Lib.hid hO18; have HB18 := Lib.hid hB18; clear hp18 hc18 hO18 hq18 hB18; obtain ⟨raw18, rbw18⟩ := hx18.rules; have rsw18 := hx18.size; have rtw18 : w.heap.size < w18.heap.size := by omega) | (go_at_call 10; refine (l_toPoint _ _ _).mono ?_; rintro e wp19 ⟨rfl, hp19'⟩; have hp19 : Ext w18 wp19 := Ext.trans (by (repeat (first | with_reducible exact Ext.refl _ | with_reducible assumption | ((with_reducible apply Src.ext); with_reducible assumption) | with_reducible refine Ext.alloc ?_ _ | with_reducible refine Ext.drew ?_ | with_reducible refine Ext.drewN ?_ _ | ((with_reducible refine Ext.setCell' ?_ ?_ _); solve | omega | simp | (simp; omega)) | (with_reducible refine Ext.trans ?_ (by with_reducible assumption))))) hp19'; clear hp19'; obtain ⟨rawp19, rbwp19⟩ := hp19.rules; have rswp19 := hp19.size; have rtwp19 : w.heap.size < wp19.heap.size := by omega) | (go_at_call 11; refine (i_OwnersAt' HCD.out HM.out _ _ _ _ q17 q18 _ (by exact ((HB17.out.ext hx18).ext hp19).sl HC17.out len_encR) (by exact ((HO17.out.ext hx18).ext hp19).rings) HQ17.out HP17.out hl (Nat.le_refl _) (by exact (HB18.out.ext hp19).sl HC18.out len_encV) (by exact (HO18.out.ext hp19).views) HQ18.out HP18.out hvl).mono ?_; rintro e w19 ⟨A19, c19, rfl, hO19, hS19, hA19, hx19'⟩; have hpp19 : wp19.heap.size ≤ w19.heap.size := hx19'.size; have hx19 : Ext w18 w19 := hp19.trans (Ext.trans (by (repeat (first | with_reducible exact Ext.refl _ | with_reducible assumption | ((with_reducible apply Src.ext); with_reducible assumption) | with_reducible refine Ext.alloc ?_ _ | with_reducible refine Ext.drew ?_ | with_reducible refine Ext.drewN ?_ _ | ((with_reducible refine Ext.setCell' ?_ ?_ _); solve | omega | simp | (simp; omega)) | (with_reducible refine Ext.trans ?_ (by with_reducible assumption))))) hx19'); have HO19 : Hid (OwS w19 w18.heap.size (.slice A19 m c19) (atR (psOf rs) (voOf vs) x z)) := Lib.hid (Own.less hO19 hp19.size); have HA19 : Hid (∀ q, A19 = some q → w18.heap.size ≤ q.block ∧ q.block < w19.heap.size) := Lib.hid fun q hq => ⟨Nat.le_trans hp19.size (hA19 q hq).1, (hA19 q hq).2⟩; clear hO19 hA19 hx19'; obtain ⟨raw19, rbw19⟩ := hx19.rules; have rsw19 := hx19.size; have rtw19 : w.heap.size < w19.heap.size := by omega))
    clear hsa hsb hst hp19 rawp19 rbwp19 rswp19 rtwp19 hpp19 raw17 rbw17 rsw17 rtw17 raw18 rbw18 rsw18 rtw18 raw19 rbw19 rsw19 rtw19
    go_wp2_with fail
    refine (l_eqS A19 A3 m c19 c3 (atR (psOf rs) (voOf vs) x z) _ hS19 (hS315.ext (((hx16.trans hx17).trans hx18).trans hx19)) HM.out (by omega)).mono ?_
    rintro e w20 ⟨rfl, hx20⟩
    go_wp2_with fail
    refine (l_heldS _ m _ 1 _ (hS615.ext ((((hx16.trans hx17).trans hx18).trans hx19).trans hx20)) (by omega) (by omega) (by omega)).mono ?_
    rintro e w21 ⟨rfl, hx21⟩
    go_wp2
    go_ret
    exact ⟨rfl, ((((hX16.trans hx17).trans hx18).trans hx19).trans hx20).trans hx21⟩

end Go.Proofs.YtabdffponmmhoaaGreatDoor
