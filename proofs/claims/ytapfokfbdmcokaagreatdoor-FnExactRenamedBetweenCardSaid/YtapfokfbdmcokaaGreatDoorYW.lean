/- The law of RenamedBetween, walked over the translation. -/
import Derived.Test.YtapfokfbdmcokaaGreatDoorYVA
import Derived.Test.YtapfokfbdmcokaaGreatDoorYVB
import Derived.Test.YtapfokfbdmcokaaGreatDoorZA
import Derived.Test.YtapfokfbdmcokaaGreatDoorKX
import Derived.Deep.RegionHeld3
import Derived.Deep.DeepCutAuto
import Derived.RegionTactic
import Derived.BigRegion
import Derived.WalkLawsBesides
import Derived.WalkSpells
import Derived.Lib.MinMax
import Derived.Outline
namespace Go.Proofs.YtapfokfbdmcokaaGreatDoor
open Go.RowKit
attribute [local go_sem] ExtOf.cell ExtOf.frozen


set_option maxRecDepth 20000 in
set_option maxHeartbeats 12800000 in
theorem fnExactRenamedBetween_walk (A : Option Addr) (c : Nat) (ps : List Pl) (A' : Option Addr) (c' : Nat) (L : List Lk) (Al : Option Addr) (cl : Nat) (ls : List (List UInt8)) (yf : Int) (yt : Int) (w : World) (h : ArgQ w A ps) (h' : ArgK w A' L) (h9 : ArgT w Al ls)  (hM : Mx w) :
    Calls Tryz.prog 7 #[.agg #[.slice A ps.length c, .slice A' L.length c'], .slice Al ls.length cl, .int .i64 yf, .int .i64 yt] w fun e w' => e = .returned (.bool true) ∧ Ext w w' := by
  have H0 : Hid (∀ W, Ext w W → ArgQ W A ps ∧ ArgK W A' L) := Lib.hid (fun W hW => ⟨h.ext hW, h'.ext hW⟩)
  have H9 : Hid (∀ W, Ext w W → SlAt W 1 encS Al ls) := Lib.hid (fun W hW => h9.sl.ext hW)
  go_enter Tryz.func7, Tryz.ntmps7
  go_wp2_with fail
  refine (l_szWorld _ _ _ _ ps L 1048576 _ (H0.out _ (by (repeat (first | with_reducible exact Ext.refl _ | with_reducible assumption | ((with_reducible apply Src.ext); with_reducible assumption) | with_reducible refine Ext.alloc ?_ _ | with_reducible refine Ext.drew ?_ | with_reducible refine Ext.drewN ?_ _ | ((with_reducible refine Ext.setCell' ?_ ?_ _); solve | omega | simp | (simp; omega)) | (with_reducible refine Ext.trans ?_ (by with_reducible assumption)))))).1 (H0.out _ (by (repeat (first | with_reducible exact Ext.refl _ | with_reducible assumption | ((with_reducible apply Src.ext); with_reducible assumption) | with_reducible refine Ext.alloc ?_ _ | with_reducible refine Ext.drew ?_ | with_reducible refine Ext.drewN ?_ _ | ((with_reducible refine Ext.setCell' ?_ ?_ _); solve | omega | simp | (simp; omega)) | (with_reducible refine Ext.trans ?_ (by with_reducible assumption)))))).2 (by omega) (by omega)).mono ?_
  rintro e w0 ⟨⟨z, rfl, hz1, hz⟩, hx0⟩
  have B0 : Blk w0 w.heap.size 25 #[.slice A ps.length c, .slice A' L.length c'] := Blk.eq (by (repeat (first | with_reducible assumption | ((with_reducible apply Blk.new); solve | simp | rfl) | with_reducible apply Blk.drew | with_reducible apply Blk.drewN | ((with_reducible apply Blk.far'); solve | omega | simp | (simp; omega)) | with_reducible apply Blk.set_ | with_reducible apply Blk.alloc | ((with_reducible apply Blk.ext'); with_reducible assumption) | ((with_reducible apply Blk.but'); (with_reducible assumption); solve | omega | (simp; omega))))) (by rfl)
  have hX0 : Ext w w0 := by clear B0; (repeat (first | with_reducible exact Ext.refl _ | with_reducible assumption | ((with_reducible apply Src.ext); with_reducible assumption) | with_reducible refine Ext.alloc ?_ _ | with_reducible refine Ext.drew ?_ | with_reducible refine Ext.drewN ?_ _ | ((with_reducible refine Ext.setCell' ?_ ?_ _); solve | omega | simp | (simp; omega)) | (with_reducible refine Ext.trans ?_ (by with_reducible assumption))))
  rcases hz with rfl | ⟨hz0, hg⟩
  · go_wp2
    go_ret
    exact ⟨rfl, hX0⟩
  · have HG := Lib.hid hg
    have hl := hg.1
    have hl' := hg.2.2.1
    have hg4 := Lib.hid hg.2.2.2
    go_wp2_with fail
    refine (l_szStringS Al _ cl ls z _ (H9.out _ (by (repeat (first | with_reducible exact Ext.refl _ | with_reducible assumption | ((with_reducible apply Src.ext); with_reducible assumption) | with_reducible refine Ext.alloc ?_ _ | with_reducible refine Ext.drew ?_ | with_reducible refine Ext.drewN ?_ _ | ((with_reducible refine Ext.setCell' ?_ ?_ _); solve | omega | simp | (simp; omega)) | (with_reducible refine Ext.trans ?_ (by with_reducible assumption)))))) rfl h9.len h9.can hz0 hz1).mono ?_
    rintro e w' ⟨⟨zs, rfl, hzs⟩, rfl⟩
    by_cases hneg : zs < 0
    · go_wp2
      go_ret
      exact ⟨rfl, hX0⟩
    have hzs2 : ls.length ≤ 1048576 ∧ ∀ i, (ls.getD i []).length ≤ 1048576 := by
      rcases hzs.2 with q | q
      · omega
      · exact q.2
    obtain ⟨hll, hli⟩ := hzs2
    have hmem : ∀ s ∈ ls, s.length ≤ 1048576 := fun s hs => by
      obtain ⟨j, hj, rfl⟩ := List.mem_iff_getElem.1 hs
      have := hli j
      rwa [show ls.getD j [] = ls[j] by simp [List.getD, hj]] at this
    clear hzs hli h9
    obtain ⟨cd, hcd⟩ : ∃ cd, cd = wyC (psD ps) L (lgB ls) [yf, yt] := ⟨_, rfl⟩
    have HCD := Lib.hid hcd
    have hcc : (cd != cd) = false := by simp
    obtain ⟨m, hm⟩ : ∃ m, m = (renR (psD ps) L ls yf yt).length := ⟨_, rfl⟩
    have hml : m ≤ 1000000 := by rw [hm]; exact renR_len _ _ _ _ _
    have HM := Lib.hid hm
    have hm0 : ¬ (((1 + m : Nat) : Int) < 0) := by omega
    have hm1 : ((((1 + m : Nat) : Int)) != ((1 + m : Nat) : Int)) = false := by simp
    have HS : Hid (∀ (W : World) (q : List Pl) (b d g : Nat), psD q = psD ps → WIn W (some ⟨b, 0, none⟩) (some ⟨d, 0, none⟩) ps.length ps.length L.length L.length q L → Ext w W → SlAt W 1 encS (some ⟨g, 0, none⟩) ls → Calls Tryz.prog 29 #[.agg #[.slice (some ⟨b, 0, none⟩) ps.length ps.length, .slice (some ⟨d, 0, none⟩) L.length L.length], .slice (some ⟨g, 0, none⟩) ls.length ls.length, .int .i64 yf, .int .i64 yt] W fun e w' => ∃ v, e = .returned (.tuple #[v, .int .i64 cd]) ∧ OwS w' W.heap.size v (renR (psD ps) L ls yf yt) ∧ Ext W w') := Lib.hid (fun W q b d g hq hW hx hls => by
      have := s_RenamedBetweenW (c9 := ls.length) yf yt hW hls rfl hll hmem 
      rw [hq] at this
      rw [HCD.out]
      exact this)
    have HI : Hid (∀ (W : World) (q : List Pl) (b d g : Nat), psD q = psD ps → WIn W (some ⟨b, 0, none⟩) (some ⟨d, 0, none⟩) ps.length ps.length L.length L.length q L → Ext w W → SlAt W 1 encS (some ⟨g, 0, none⟩) ls → Calls Tryz.prog 31 #[.agg #[.slice (some ⟨b, 0, none⟩) ps.length ps.length, .slice (some ⟨d, 0, none⟩) L.length L.length], .slice (some ⟨g, 0, none⟩) ls.length ls.length, .int .i64 yf, .int .i64 yt] W fun e w' => ∃ v, e = .returned (.tuple #[v, .int .i64 cd]) ∧ OwS w' W.heap.size v (renR (psD ps) L ls yf yt) ∧ Ext W w') := Lib.hid (fun W q b d g hq hW hx hls => by
      have := i_RenamedBetweenW (c9 := ls.length) yf yt hW hls rfl hll hmem  (hM.ext hx)
      rw [hq] at this
      rw [HCD.out]
      exact this)
    have HBX : Hid (∀ W, Ext w0 W → W.cell? ⟨w.heap.size, 0, none⟩ = some (.slice A ps.length c) ∧ W.cell? ⟨w.heap.size, 1, none⟩ = some (.slice A' L.length c')) := Lib.hid (fun W hW => ⟨(B0.ext hW).cell 0, (B0.ext hW).cell 1⟩)
    clear hg h h' hx0 B0 hcd hm
    have HX0 := Lib.hid hX0
    clear hX0
    obtain ⟨ga1, gb1⟩ := HBX.out _ (Ext.refl _)
    go_wp2_with fail
    refine (l_toWorld _ _ _ _ ps L _ ((H0.out _ (HX0.out)).1) ((H0.out _ (HX0.out)).2) HG.out).mono ?_
    rintro e w1 ⟨q1, b1, d1, rfl, hq1, hp1, hW1, hx1⟩
    have HQ1 := Lib.hid hq1
    have HP1 := Lib.hid hp1
    have HW1 := Lib.hid hW1
    clear hq1 hp1 hW1 ga1 gb1
    have HY1 := Lib.hid hx1
    clear hx1
    go_wp2_with fail
    refine (l_toStringS Al _ cl ls _ (H9.out _ (HX0.out.trans HY1.out)) rfl hll).mono ?_
    rintro e w1b ⟨cs1b, rfl, hB1b, hcs1b, hx1b⟩
    (try simp only [World.size_alloc] at hB1b)
    have HB1b := Lib.hid hB1b
    have HL1b := Lib.hid (hB1b.sl hcs1b len_encS)
    have HCS1b := Lib.hid hcs1b
    clear hB1b hcs1b
    have HY1b := Lib.hid (HY1.out.trans hx1b)
    have HX1b := Lib.hid hx1b
    clear hx1b
    go_wp2_with fail
    refine (HS.out _ q1 b1 d1 _ HP1.out ((HW1.out.ext HX1b.out).win HQ1.out.symm hl rfl hl' hg4.out) (HX0.out.trans HY1b.out) HL1b.out).mono ?_
    rintro e w2 ⟨v2, rfl, hO2, hx2⟩
    have HO2 := Lib.hid hO2
    obtain ⟨A2, c2', rfl, hS2, _, _, hA2⟩ := hO2.sl len_encS
    rw [← HM.out] at HO2 ⊢
    have HA2 := Lib.hid hA2
    clear hO2 hA2
    have HY2 := Lib.hid (HY1b.out.trans hx2)
    clear hx2
    obtain ⟨ga3, gb3⟩ := HBX.out _ (HY2.out)
    go_wp2_with fail
    refine (l_toWorld _ _ _ _ ps L _ ((H0.out _ (HX0.out.trans HY2.out)).1) ((H0.out _ (HX0.out.trans HY2.out)).2) HG.out).mono ?_
    rintro e w3 ⟨q3, b3, d3, rfl, hq3, hp3, hW3, hx3⟩
    have HQ3 := Lib.hid hq3
    have HP3 := Lib.hid hp3
    have HW3 := Lib.hid hW3
    clear hq3 hp3 hW3 ga3 gb3
    have HX3 := Lib.hid hx3
    have HY3 := Lib.hid (HY2.out.trans hx3)
    have hs23 : w2.heap.size ≤ w3.heap.size := hx3.size
    have hs02 : w0.heap.size ≤ w2.heap.size := HY2.out.size
    clear hx3
    go_wp2_with fail
    refine (l_toStringS Al _ cl ls _ (H9.out _ ((HX0.out.trans HY3.out).trans (by (repeat (first | with_reducible exact Ext.refl _ | with_reducible assumption | ((with_reducible apply Src.ext); with_reducible assumption) | with_reducible refine Ext.alloc ?_ _ | with_reducible refine Ext.drew ?_ | with_reducible refine Ext.drewN ?_ _ | ((with_reducible refine Ext.setCell' ?_ ?_ _); solve | omega | simp | (simp; omega)) | (with_reducible refine Ext.trans ?_ (by with_reducible assumption))))))) rfl hll).mono ?_
    rintro e w3b ⟨cs3, rfl, hB3b, hcs3, hx3b⟩
    (try simp only [World.size_alloc] at hB3b)
    have HCS3 := Lib.hid hcs3
    have HB3b := Lib.hid hB3b
    have B3b : Blk w3b w3.heap.size 33 #[.slice (some ⟨b3, 0, none⟩) ps.length ps.length, .slice (some ⟨d3, 0, none⟩) L.length L.length] := Blk.eq (by (repeat (first | with_reducible assumption | ((with_reducible apply Blk.new); solve | simp | rfl) | with_reducible apply Blk.drew | with_reducible apply Blk.drewN | ((with_reducible apply Blk.far'); solve | omega | simp | (simp; omega)) | with_reducible apply Blk.set_ | with_reducible apply Blk.alloc | ((with_reducible apply Blk.ext'); with_reducible assumption) | ((with_reducible apply Blk.but'); (with_reducible assumption); solve | omega | (simp; omega))))) (by rfl)
    have hx33b : Ext w3 w3b := by (repeat (first | with_reducible exact Ext.refl _ | with_reducible assumption | ((with_reducible apply Src.ext); with_reducible assumption) | with_reducible refine Ext.alloc ?_ _ | with_reducible refine Ext.drew ?_ | with_reducible refine Ext.drewN ?_ _ | ((with_reducible refine Ext.setCell' ?_ ?_ _); solve | omega | simp | (simp; omega)) | (with_reducible refine Ext.trans ?_ (by with_reducible assumption))))
    have HX33b := Lib.hid hx33b
    have y30 : w3b.cell? ⟨w3.heap.size, 0, none⟩ = some (.slice (some ⟨b3, 0, none⟩) ps.length ps.length) := B3b.cell 0
    have y31 : w3b.cell? ⟨w3.heap.size, 1, none⟩ = some (.slice (some ⟨d3, 0, none⟩) L.length L.length) := B3b.cell 1
    have HBW := Lib.hid B3b
    have hl3b := B3b.lt
    have hl3c := hB3b.lt
    clear hcs3 hB3b B3b hx3b hx33b
    go_wp2_with fail
    refine (HI.out _ q3 b3 d3 (w3.heap.size + 1) HP3.out ((HW3.out.ext HX33b.out).win HQ3.out.symm hl rfl hl' hg4.out) ((HX0.out.trans HY3.out).trans HX33b.out) (HB3b.out.sl HCS3.out len_encS)).mono ?_
    rintro e w4 ⟨v4, rfl, hO4, hx4⟩
    have HO4 := Lib.hid hO4
    obtain ⟨A4, c4', rfl, hS4, _, _, hA4⟩ := hO4.sl len_encS
    rw [← HM.out] at HO4 ⊢
    have HA4 := Lib.hid hA4
    clear hO4 hA4
    have B3 : Blk w4 w3.heap.size 33 #[.slice (some ⟨b3, 0, none⟩) ps.length ps.length, .slice (some ⟨d3, 0, none⟩) L.length L.length] := HBW.out.ext hx4
    have hB34 : Blk w4 (w3.heap.size + 1) 9 cs3 := HB3b.out.ext hx4
    have HB34 := Lib.hid hB34
    have hx34 : Ext w3 w4 := HX33b.out.trans hx4
    have HX34 := Lib.hid hx34
    clear hB34 y30 y31
    have HY4 := Lib.hid (HY3.out.trans hx34)
    have HB3 := Lib.hid B3
    clear B3 hx4 hx34
    go_wp2_with fail
    refine (l_eqS A4 A2 m c4' c2' (renR (psD ps) L ls yf yt) _ hS4 (hS2.ext (HX3.out.trans HX34.out)) HM.out (by omega)).mono ?_
    rintro e w5 ⟨rfl, hx5⟩
    have HX5 := Lib.hid hx5
    have HY5 := Lib.hid (HY4.out.trans hx5)
    clear hx5
    have HKK : Hid (∀ W, Ext w5 W → W.cell? ⟨w3.heap.size, 0, none⟩ = some (.slice (some ⟨b3, 0, none⟩) ps.length ps.length) ∧ W.cell? ⟨w3.heap.size, 1, none⟩ = some (.slice (some ⟨d3, 0, none⟩) L.length L.length) ∧ W.cell? ⟨w.heap.size, 0, none⟩ = some (.slice A ps.length c) ∧ W.cell? ⟨w.heap.size, 1, none⟩ = some (.slice A' L.length c')) := Lib.hid (fun W hW => ⟨(HB3.out.ext (HX5.out.trans hW)).cell 0, (HB3.out.ext (HX5.out.trans hW)).cell 1, (HBX.out W (HY5.out.trans hW)).1, (HBX.out W (HY5.out.trans hW)).2⟩)
    obtain ⟨gc5, gd5, ga5, gb5⟩ := HKK.out w5 (Ext.refl _)
    go_wp2
    go_region_held3 (fun w' => w'.cell? ⟨w3.heap.size, 0, none⟩ = some (.slice (some ⟨b3, 0, none⟩) ps.length ps.length) ∧ w'.cell? ⟨w3.heap.size, 1, none⟩ = some (.slice (some ⟨d3, 0, none⟩) L.length L.length) ∧ w'.cell? ⟨w.heap.size, 0, none⟩ = some (.slice A ps.length c) ∧ w'.cell? ⟨w.heap.size, 1, none⟩ = some (.slice A' L.length c')) (first | go_keep | exact HKK.out _ (by (repeat (first | with_reducible exact Ext.refl _ | with_reducible assumption | ((with_reducible apply Src.ext); with_reducible assumption) | with_reducible refine Ext.alloc ?_ _ | with_reducible refine Ext.drew ?_ | with_reducible refine Ext.drewN ?_ _ | ((with_reducible refine Ext.setCell' ?_ ?_ _); solve | omega | simp | (simp; omega)) | (with_reducible refine Ext.trans ?_ (by with_reducible assumption)))))) (first | (go_at_call 14; refine (l_toWorld _ _ _ _ ps L _ (H0.out _ ((HX0.out.trans HY5.out).trans (by (repeat (first | with_reducible exact Ext.refl _ | with_reducible assumption | ((with_reducible apply Src.ext); with_reducible assumption) | with_reducible refine Ext.alloc ?_ _ | with_reducible refine Ext.drew ?_ | with_reducible refine Ext.drewN ?_ _ | ((with_reducible refine Ext.setCell' ?_ ?_ _); solve | omega | simp | (simp; omega)) | (with_reducible refine Ext.trans ?_ (by with_reducible assumption))))))).1 (H0.out _ ((HX0.out.trans HY5.out).trans (by (repeat (first | with_reducible exact Ext.refl _ | with_reducible assumption | ((with_reducible apply Src.ext); with_reducible assumption) | with_reducible refine Ext.alloc ?_ _ | with_reducible refine Ext.drew ?_ | with_reducible refine Ext.drewN ?_ _ | ((with_reducible refine Ext.setCell' ?_ ?_ _); solve | omega | simp | (simp; omega)) | (with_reducible refine Ext.trans ?_ (by with_reducible assumption))))))).2 HG.out).mono ?_; rintro e w6 ⟨q6, b6, d6, rfl, hq6, hp6, hW6, hx6⟩; have hs6 := hx6.size; have HQ6 := Lib.hid hq6; have HP6 := Lib.hid hp6; have HW6 := Lib.hid hW6; clear hq6 hp6 hW6) | (go_at_call 17; refine (l_eqWorld (HW3.out.ext ((HX34.out.trans HX5.out).trans (by (repeat (first | with_reducible exact Ext.refl _ | with_reducible assumption | ((with_reducible apply Src.ext); with_reducible assumption) | with_reducible refine Ext.alloc ?_ _ | with_reducible refine Ext.drew ?_ | with_reducible refine Ext.drewN ?_ _ | ((with_reducible refine Ext.setCell' ?_ ?_ _); solve | omega | simp | (simp; omega)) | (with_reducible refine Ext.trans ?_ (by with_reducible assumption))))))) (HW6.out.ext (by (repeat (first | with_reducible exact Ext.refl _ | with_reducible assumption | ((with_reducible apply Src.ext); with_reducible assumption) | with_reducible refine Ext.alloc ?_ _ | with_reducible refine Ext.drew ?_ | with_reducible refine Ext.drewN ?_ _ | ((with_reducible refine Ext.setCell' ?_ ?_ _); solve | omega | simp | (simp; omega)) | (with_reducible refine Ext.trans ?_ (by with_reducible assumption)))))) (HP3.out.trans HP6.out.symm) _ _ _ _ _ _ HQ3.out.symm rfl hl hl').mono ?_; rintro e w7 ⟨rfl, hx7⟩; have hs7 := hx7.size))
    have hX57a : Ext w5 w7 := by (repeat (first | with_reducible exact Ext.refl _ | with_reducible assumption | ((with_reducible apply Src.ext); with_reducible assumption) | with_reducible refine Ext.alloc ?_ _ | with_reducible refine Ext.drew ?_ | with_reducible refine Ext.drewN ?_ _ | ((with_reducible refine Ext.setCell' ?_ ?_ _); solve | omega | simp | (simp; omega)) | (with_reducible refine Ext.trans ?_ (by with_reducible assumption))))
    have HX57a := Lib.hid hX57a
    have HY7a := Lib.hid (HY5.out.trans hX57a)
    clear hX57a hx6 hx7 hs6 hs7
    go_wp2_with fail
    refine (l_toStringS Al _ cl ls _ (H9.out _ (HX0.out.trans HY7a.out)) rfl hll).mono ?_
    rintro e w8a ⟨cs8, rfl, hB8a, hcs8, hx8a⟩
    have HX8a := Lib.hid hx8a
    have HL8a := Lib.hid (hB8a.sl hcs8 len_encS)
    clear hB8a hcs8 hx8a
    go_wp2_with fail
    refine (l_eqS _ _ ls.length ls.length ls.length ls _ (((HB34.out.ext HX5.out).ext (HX57a.out.trans HX8a.out)).sl HCS3.out len_encS) HL8a.out rfl hll).mono ?_
    rintro e w7 ⟨rfl, hx7⟩
    have hX57 : Ext w5 w7 := (HX57a.out.trans HX8a.out).trans hx7
    have hX47 : Ext w4 w7 := HX5.out.trans hX57
    have hY7 : Ext w0 w7 := HY5.out.trans hX57
    have hS27 := hS2.ext ((HX3.out.trans HX34.out).trans hX47)
    have hS47 := hS4.ext hX47
    have HO47 := Lib.hid (HO4.out.ext hX47)
    have HW37 := Lib.hid (HW3.out.ext (HX34.out.trans hX47))
    obtain ⟨gc7, gd7, ga7, gb7⟩ := HKK.out w7 hX57
    have HY7 := Lib.hid hY7
    have HB37 := Lib.hid (HB34.out.ext hX47)
    clear HO4 hS4 hS2 gc5 gd5 ga5 gb5 hx7 hX57 hX47 hY7
    go_wp2_with fail
    refine (l_markWorld HW37.out _ _ _ _ HQ3.out.symm rfl hl hl').mono ?_
    rintro e w8 ⟨z8, rfl, hz8, hz9, hm8⟩
    have hz8' : ¬ ((z8 : Int) < 0) := by omega
    have HY8 := Lib.hid (hm8.ext HY7.out hs02)
    have hS28 := hS27.btw hm8 (fun q hq => .inl (HA2.out q hq).2)
    have hS48 := hS47.btw hm8 (fun q hq => .inr (by have := (HA4.out q hq).1; omega))
    have HO48 := Lib.hid (HO47.out.btw hm8 (by first | (simp; done) | (simp; omega) | omega))
    have HB38 := Lib.hid (HB37.out.btw hm8 (.inr (by first | (simp; done) | (simp; omega) | omega)))
    clear hm8 hS27 hS47 HO47 gc7 gd7 ga7 gb7
    go_wp2_with fail
    refine (l_markS (w3.heap.size + 1) _ ls ls.length z8 _ (Own.of_blk HB38.out len_encS HCS3.out (Nat.le_refl _) (by unfold maxLen; omega)) rfl hll hz8 hz9).mono ?_
    rintro e w8b ⟨rfl, hO8b, hg8b⟩
    have hob : ∀ k, (Value.slice (some ⟨w3.heap.size + 1, 0, none⟩) ls.length ls.length).ownBlock = some k → k = w3.heap.size + 1 := fun k hk => own_isE hk
    have hg04 : w0.heap.size ≤ w3.heap.size := Nat.le_trans hs02 hs23
    have hz8'' : ¬ (((z8 + ls.length : Nat) : Int) < 0) := by omega
    have HY8c := Lib.hid (HY8.out.grown hg8b (fun k hk => by have := hob k hk; omega))
    have hS28c := hS28.grown hg8b (fun q hq hk => by have h1 := hob _ hk.symm; have h2 := (HA2.out q hq).2; omega)
    have hS48c := hS48.grown hg8b (fun q hq hk => by have h1 := hob _ hk.symm; have h2 := (HA4.out q hq).1; omega)
    have HO48c := Lib.hid (HO48.out.kept hg8b (by
      rcases hk : (Value.slice A4 m c4').ownBlock with _ | k
      · exact .inl rfl
      · refine .inr (fun e => ?_)
        have h1 := hob k e.symm
        have h2 := (HO48.out.row k hk).1
        omega))
    clear HY8 hS28 hS48 HO48 hO8b hg8b hob
    have HY8 := HY8c
    have HO48 := HO48c
    have hS28 := hS28c
    have hS48 := hS48c
    clear HY8c HO48c hS28c hS48c
    go_wp2_with fail
    refine (l_eqS A4 A2 m c4' c2' (renR (psD ps) L ls yf yt) _ hS48 hS28 HM.out (by omega)).mono ?_
    rintro e w9 ⟨rfl, hx9⟩
    have HO9 := Lib.hid (HO48.out.ext hx9)
    have hS29 := hS28.ext hx9
    have HY9 := Lib.hid (HY8.out.trans hx9)
    have hs03 : w0.heap.size ≤ w3.heap.size := Nat.le_trans hs02 hs23
    clear HO48 hS28 hS48 hx9
    go_wp2_with fail
    refine (l_markS _ _ _ m 1 _ HO9.out HM.out (by omega) (by omega) (by omega)).mono ?_
    rintro e w10 ⟨rfl, hO10, hg10⟩
    have HY10 := Lib.hid (HY9.out.grown hg10 (fun q hq => by have := (HO9.out.row q hq).1; (try simp only [World.size_alloc] at this); omega))
    have hS210 := hS29.grown hg10 (by intro q hq he; have := (HA2.out q hq).2; have := (HO9.out.row _ he.symm).1; (try simp only [World.size_alloc] at this); omega)
    obtain ⟨_, _, e', hS410, _⟩ := hO10.sl len_encS
    injection e' with ea eb ec
    subst ea
    clear hg10 hS29 HO9 eb ec hO10
    go_wp2_with fail
    refine (l_heldS _ m _ 1 _ hS410 (by omega) (by omega) (by omega)).mono ?_
    rintro e w11 ⟨rfl, hx11⟩
    have HX11 := Lib.hid hx11
    have HY11 := Lib.hid (HY10.out.trans hx11)
    clear hx11
    obtain ⟨ga12, gb12⟩ := HBX.out _ (HY11.out)
    go_wp2_with fail
    refine (l_toWorld _ _ _ _ ps L _ ((H0.out _ (HX0.out.trans HY11.out)).1) ((H0.out _ (HX0.out.trans HY11.out)).2) HG.out).mono ?_
    rintro e w12 ⟨q12, b12, d12, rfl, hq12, hp12, hW12, hx12⟩
    have HQ12 := Lib.hid hq12
    have HP12 := Lib.hid hp12
    have HW12 := Lib.hid hW12
    clear hq12 hp12 hW12 ga12 gb12
    have HX12 := Lib.hid hx12
    have HY12 := Lib.hid (HY11.out.trans hx12)
    clear hx12
    go_wp2_with fail
    refine (l_toStringS Al _ cl ls _ (H9.out _ (HX0.out.trans HY12.out)) rfl hll).mono ?_
    rintro e w12b ⟨cs12, rfl, hB12b, hcs12, hx12b⟩
    have HL12 := Lib.hid (hB12b.sl hcs12 len_encS)
    have HX12b := Lib.hid hx12b
    clear hB12b hcs12 hx12b
    go_wp2_with fail
    refine (HI.out _ q12 b12 d12 _ HP12.out ((HW12.out.ext HX12b.out).win HQ12.out.symm hl rfl hl' hg4.out) ((HX0.out.trans HY12.out).trans HX12b.out) HL12.out).mono ?_
    rintro e w13 ⟨v13, rfl, hO13, hx13⟩
    have HO13 := Lib.hid hO13
    obtain ⟨A13, c13', rfl, hS13, _, _, hA13⟩ := hO13.sl len_encS
    rw [← HM.out] at HO13 ⊢
    have HA13 := Lib.hid hA13
    clear hO13 hA13
    go_wp2_with fail
    refine (l_eqS A13 A2 m c13' c2' (renR (psD ps) L ls yf yt) _ hS13 (hS210.ext (((HX11.out.trans HX12.out).trans HX12b.out).trans hx13)) HM.out (by omega)).mono ?_
    rintro e w14 ⟨rfl, hx14⟩
    go_wp2_with fail
    refine (l_heldS _ m _ 1 _ (hS410.ext ((((HX11.out.trans HX12.out).trans HX12b.out).trans hx13).trans hx14)) (by omega) (by omega) (by omega)).mono ?_
    rintro e w15 ⟨rfl, hx15⟩
    go_wp2
    go_ret
    exact ⟨rfl, ((((HX0.out.trans HY12.out).trans HX12b.out).trans hx13).trans hx14).trans hx15⟩

end Go.Proofs.YtapfokfbdmcokaaGreatDoor
