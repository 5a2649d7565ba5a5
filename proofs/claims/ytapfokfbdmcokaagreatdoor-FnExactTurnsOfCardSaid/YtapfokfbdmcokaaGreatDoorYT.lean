/- The law of TurnsOf, walked over the translation. -/
import Derived.Test.YtapfokfbdmcokaaGreatDoorYQB
import Derived.Test.YtapfokfbdmcokaaGreatDoorZA
import Derived.Deep.RegionHeld3
import Derived.Deep.DeepCutAuto
import Derived.RegionTactic
import Derived.BigRegion
import Derived.WalkLawsBesides
import Derived.WalkSpells
import Derived.Lib.MinMax
import Derived.Outline
namespace Go.Proofs.YtapfokfbdmcokaaGreatDoor
open Go.RowKit
attribute [local go_sem] ExtOf.cell ExtOf.frozen


set_option maxRecDepth 20000 in
set_option maxHeartbeats 12800000 in
theorem fnExactTurnsOf_walk (A : Option Addr) (c : Nat) (ps : List Pl) (A' : Option Addr) (c' : Nat) (L : List Lk) (sx : ByteArray) (w : World) (h : ArgQ w A ps) (h' : ArgK w A' L) (hsx : sx.size ≤ maxLen) (hM : Mx w) :
    Calls Tryz.prog 8 #[.agg #[.slice A ps.length c, .slice A' L.length c'], .string sx] w fun e w' => e = .returned (.bool true) ∧ Ext w w' := by
  unfold maxLen at hsx
  by_cases hox : 1048576 < sx.size
  · go_enter Tryz.func8, Tryz.ntmps8
    go_wp2
    go_ret
    exact ⟨rfl, by (repeat (first | with_reducible exact Ext.refl _ | with_reducible assumption | ((with_reducible apply Src.ext); with_reducible assumption) | with_reducible refine Ext.alloc ?_ _ | with_reducible refine Ext.drew ?_ | with_reducible refine Ext.drewN ?_ _ | ((with_reducible refine Ext.setCell' ?_ ?_ _); solve | omega | simp | (simp; omega)) | (with_reducible refine Ext.trans ?_ (by with_reducible assumption))))⟩
  obtain ⟨x, rfl⟩ : ∃ x : List UInt8, tx x = sx := ⟨sx.data.toList, rfl⟩
  have hszx := tx_size x
  have hlex : x.length ≤ 1048576 := by omega
  have H0 : Hid (∀ W, Ext w W → ArgQ W A ps ∧ ArgK W A' L) := Lib.hid (fun W hW => ⟨h.ext hW, h'.ext hW⟩)
  go_enter Tryz.func8, Tryz.ntmps8
  go_wp2_with fail
  refine (l_szWorld _ _ _ _ ps L 1048576 _ (H0.out _ (by (repeat (first | with_reducible exact Ext.refl _ | with_reducible assumption | ((with_reducible apply Src.ext); with_reducible assumption) | with_reducible refine Ext.alloc ?_ _ | with_reducible refine Ext.drew ?_ | with_reducible refine Ext.drewN ?_ _ | ((with_reducible refine Ext.setCell' ?_ ?_ _); solve | omega | simp | (simp; omega)) | (with_reducible refine Ext.trans ?_ (by with_reducible assumption)))))).1 (H0.out _ (by (repeat (first | with_reducible exact Ext.refl _ | with_reducible assumption | ((with_reducible apply Src.ext); with_reducible assumption) | with_reducible refine Ext.alloc ?_ _ | with_reducible refine Ext.drew ?_ | with_reducible refine Ext.drewN ?_ _ | ((with_reducible refine Ext.setCell' ?_ ?_ _); solve | omega | simp | (simp; omega)) | (with_reducible refine Ext.trans ?_ (by with_reducible assumption)))))).2 (by omega) (by omega)).mono ?_
  rintro e w0 ⟨⟨z, rfl, hz1, hz⟩, hx0⟩
  have B0 : Blk w0 w.heap.size 25 #[.slice A ps.length c, .slice A' L.length c'] := Blk.eq (by (repeat (first | with_reducible assumption | ((with_reducible apply Blk.new); solve | simp | rfl) | with_reducible apply Blk.drew | with_reducible apply Blk.drewN | ((with_reducible apply Blk.far'); solve | omega | simp | (simp; omega)) | with_reducible apply Blk.set_ | with_reducible apply Blk.alloc | ((with_reducible apply Blk.ext'); with_reducible assumption) | ((with_reducible apply Blk.but'); (with_reducible assumption); solve | omega | (simp; omega))))) (by rfl)
  have hX0 : Ext w w0 := by clear B0; (repeat (first | with_reducible exact Ext.refl _ | with_reducible assumption | ((with_reducible apply Src.ext); with_reducible assumption) | with_reducible refine Ext.alloc ?_ _ | with_reducible refine Ext.drew ?_ | with_reducible refine Ext.drewN ?_ _ | ((with_reducible refine Ext.setCell' ?_ ?_ _); solve | omega | simp | (simp; omega)) | (with_reducible refine Ext.trans ?_ (by with_reducible assumption))))
  rcases hz with rfl | ⟨hz0, hg⟩
  · go_wp2
    go_ret
    exact ⟨rfl, hX0⟩
  · have HG := Lib.hid hg
    have hl := hg.1
    have hl' := hg.2.2.1
    have hg4 := Lib.hid hg.2.2.2
    obtain ⟨cd, hcd⟩ : ∃ cd, cd = trC (psD ps) L x := ⟨_, rfl⟩
    have HCD := Lib.hid hcd
    have hcc : (cd != cd) = false := by simp
    obtain ⟨m, hm⟩ : ∃ m, m = (trR (psD ps) L x).length := ⟨_, rfl⟩
    have hml : m ≤ 1000000 := by rw [hm]; exact Nat.le_trans (trR_len _ _ _) (by omega)
    have HM := Lib.hid hm
    have hm0 : ¬ (((1 + m : Nat) : Int) < 0) := by omega
    have hm1 : ((((1 + m : Nat) : Int)) != ((1 + m : Nat) : Int)) = false := by simp
    have HS : Hid (∀ (W : World) (q : List Pl) (b d : Nat), psD q = psD ps → WIn W (some ⟨b, 0, none⟩) (some ⟨d, 0, none⟩) ps.length ps.length L.length L.length q L → Ext w W → Calls Tryz.prog 32 #[.agg #[.slice (some ⟨b, 0, none⟩) ps.length ps.length, .slice (some ⟨d, 0, none⟩) L.length L.length], .string (tx x)] W fun e w' => ∃ v, e = .returned (.tuple #[v, .int .i64 cd]) ∧ OwI w' W.heap.size v (trR (psD ps) L x) ∧ Ext W w') := Lib.hid (fun W q b d hq hW hx => by
      have := s_TurnsOfW x hW hlex
      rw [hq] at this
      rw [HCD.out]
      exact this)
    have HI : Hid (∀ (W : World) (q : List Pl) (b d : Nat), psD q = psD ps → WIn W (some ⟨b, 0, none⟩) (some ⟨d, 0, none⟩) ps.length ps.length L.length L.length q L → Ext w W → Calls Tryz.prog 33 #[.agg #[.slice (some ⟨b, 0, none⟩) ps.length ps.length, .slice (some ⟨d, 0, none⟩) L.length L.length], .string (tx x)] W fun e w' => ∃ v, e = .returned (.tuple #[v, .int .i64 cd]) ∧ OwI w' W.heap.size v (trR (psD ps) L x) ∧ Ext W w') := Lib.hid (fun W q b d hq hW hx => by
      have := i_TurnsOfW x hW hlex (hM.ext hx)
      rw [hq] at this
      rw [HCD.out]
      exact this)
    have HBX : Hid (∀ W, Ext w0 W → W.cell? ⟨w.heap.size, 0, none⟩ = some (.slice A ps.length c) ∧ W.cell? ⟨w.heap.size, 1, none⟩ = some (.slice A' L.length c')) := Lib.hid (fun W hW => ⟨(B0.ext hW).cell 0, (B0.ext hW).cell 1⟩)
    clear hg h h' hx0 B0 hcd hm
    generalize tx x = tx at *
    have HX0 := Lib.hid hX0
    clear hX0
    obtain ⟨ga1, gb1⟩ := HBX.out _ (Ext.refl _)
    go_wp2_with fail
    refine (l_toWorld _ _ _ _ ps L _ ((H0.out _ (HX0.out)).1) ((H0.out _ (HX0.out)).2) HG.out).mono ?_
    rintro e w1 ⟨q1, b1, d1, rfl, hq1, hp1, hW1, hx1⟩
    have HQ1 := Lib.hid hq1
    have HP1 := Lib.hid hp1
    have HW1 := Lib.hid hW1
    clear hq1 hp1 hW1 ga1 gb1
    have HY1 := Lib.hid hx1
    go_wp2_with fail
    refine (HS.out _ q1 b1 d1 HP1.out ((HW1.out.ext (Ext.refl _)).win HQ1.out.symm hl rfl hl' hg4.out) (HX0.out.trans HY1.out)).mono ?_
    rintro e w2 ⟨v2, rfl, hO2, hx2⟩
    have HO2 := Lib.hid hO2
    obtain ⟨A2, c2', rfl, hS2, _, _, hA2⟩ := hO2.sl len_encI
    rw [← HM.out] at HO2 ⊢
    have HA2 := Lib.hid hA2
    clear hO2 hA2
    have HY2 := Lib.hid (HY1.out.trans hx2)
    clear hx1 hx2
    obtain ⟨ga3, gb3⟩ := HBX.out _ (HY2.out)
    go_wp2_with fail
    refine (l_toWorld _ _ _ _ ps L _ ((H0.out _ (HX0.out.trans HY2.out)).1) ((H0.out _ (HX0.out.trans HY2.out)).2) HG.out).mono ?_
    rintro e w3 ⟨q3, b3, d3, rfl, hq3, hp3, hW3, hx3⟩
    have HQ3 := Lib.hid hq3
    have HP3 := Lib.hid hp3
    have HW3 := Lib.hid hW3
    clear hq3 hp3 hW3 ga3 gb3
    have HX3 := Lib.hid hx3
    have HY3 := Lib.hid (HY2.out.trans hx3)
    have hs23 : w2.heap.size ≤ w3.heap.size := hx3.size
    have hs02 : w0.heap.size ≤ w2.heap.size := HY2.out.size
    clear hx3
    go_wp2_with fail
    refine (HI.out _ q3 b3 d3 HP3.out ((HW3.out.ext (by (repeat (first | with_reducible exact Ext.refl _ | with_reducible assumption | ((with_reducible apply Src.ext); with_reducible assumption) | with_reducible refine Ext.alloc ?_ _ | with_reducible refine Ext.drew ?_ | with_reducible refine Ext.drewN ?_ _ | ((with_reducible refine Ext.setCell' ?_ ?_ _); solve | omega | simp | (simp; omega)) | (with_reducible refine Ext.trans ?_ (by with_reducible assumption)))))).win HQ3.out.symm hl rfl hl' hg4.out) ((HX0.out.trans HY3.out).trans (by (repeat (first | with_reducible exact Ext.refl _ | with_reducible assumption | ((with_reducible apply Src.ext); with_reducible assumption) | with_reducible refine Ext.alloc ?_ _ | with_reducible refine Ext.drew ?_ | with_reducible refine Ext.drewN ?_ _ | ((with_reducible refine Ext.setCell' ?_ ?_ _); solve | omega | simp | (simp; omega)) | (with_reducible refine Ext.trans ?_ (by with_reducible assumption))))))).mono ?_
    rintro e w4 ⟨v4, rfl, hO4, hx4⟩
    have HO4 := Lib.hid hO4
    obtain ⟨A4, c4', rfl, hS4, _, _, hA4⟩ := hO4.sl len_encI
    rw [← HM.out] at HO4 ⊢
    have HA4 := Lib.hid hA4
    clear hO4 hA4
    (try simp only [World.size_alloc] at HA4)
    have B3 : Blk w4 w3.heap.size 33 #[.slice (some ⟨b3, 0, none⟩) ps.length ps.length, .slice (some ⟨d3, 0, none⟩) L.length L.length] := Blk.eq (by (repeat (first | with_reducible assumption | ((with_reducible apply Blk.new); solve | simp | rfl) | with_reducible apply Blk.drew | with_reducible apply Blk.drewN | ((with_reducible apply Blk.far'); solve | omega | simp | (simp; omega)) | with_reducible apply Blk.set_ | with_reducible apply Blk.alloc | ((with_reducible apply Blk.ext'); with_reducible assumption) | ((with_reducible apply Blk.but'); (with_reducible assumption); solve | omega | (simp; omega))))) (by rfl)
    have hx34 : Ext w3 w4 := by clear B3; (repeat (first | with_reducible exact Ext.refl _ | with_reducible assumption | ((with_reducible apply Src.ext); with_reducible assumption) | with_reducible refine Ext.alloc ?_ _ | with_reducible refine Ext.drew ?_ | with_reducible refine Ext.drewN ?_ _ | ((with_reducible refine Ext.setCell' ?_ ?_ _); solve | omega | simp | (simp; omega)) | (with_reducible refine Ext.trans ?_ (by with_reducible assumption))))
    have HX34 := Lib.hid hx34
    have HY4 := Lib.hid (HY3.out.trans hx34)
    have HB3 := Lib.hid B3
    clear B3 hx4 hx34
    go_wp2_with fail
    refine (l_eqI A4 A2 m c4' c2' (trR (psD ps) L x) _ hS4 (hS2.ext (HX3.out.trans HX34.out)) HM.out (by omega)).mono ?_
    rintro e w5 ⟨rfl, hx5⟩
    have HX5 := Lib.hid hx5
    have HY5 := Lib.hid (HY4.out.trans hx5)
    clear hx5
    have HKK : Hid (∀ W, Ext w5 W → W.cell? ⟨w3.heap.size, 0, none⟩ = some (.slice (some ⟨b3, 0, none⟩) ps.length ps.length) ∧ W.cell? ⟨w3.heap.size, 1, none⟩ = some (.slice (some ⟨d3, 0, none⟩) L.length L.length) ∧ W.cell? ⟨w.heap.size, 0, none⟩ = some (.slice A ps.length c) ∧ W.cell? ⟨w.heap.size, 1, none⟩ = some (.slice A' L.length c')) := Lib.hid (fun W hW => ⟨(HB3.out.ext (HX5.out.trans hW)).cell 0, (HB3.out.ext (HX5.out.trans hW)).cell 1, (HBX.out W (HY5.out.trans hW)).1, (HBX.out W (HY5.out.trans hW)).2⟩)
    obtain ⟨gc5, gd5, ga5, gb5⟩ := HKK.out w5 (Ext.refl _)
    go_wp2
    go_region_held3 (fun w' => w'.cell? ⟨w3.heap.size, 0, none⟩ = some (.slice (some ⟨b3, 0, none⟩) ps.length ps.length) ∧ w'.cell? ⟨w3.heap.size, 1, none⟩ = some (.slice (some ⟨d3, 0, none⟩) L.length L.length) ∧ w'.cell? ⟨w.heap.size, 0, none⟩ = some (.slice A ps.length c) ∧ w'.cell? ⟨w.heap.size, 1, none⟩ = some (.slice A' L.length c')) (first | go_keep | exact HKK.out _ (by (repeat (first | with_reducible exact Ext.refl _ | with_reducible assumption | ((with_reducible apply Src.ext); with_reducible assumption) | with_reducible refine Ext.alloc ?_ _ | with_reducible refine Ext.drew ?_ | with_reducible refine Ext.drewN ?_ _ | ((with_reducible refine Ext.setCell' ?_ ?_ _); solve | omega | simp | (simp; omega)) | (with_reducible refine Ext.trans ?_ (by with_reducible assumption)))))) (first | (go_at_call 14; refine (l_toWorld _ _ _ _ ps L _ (H0.out _ ((HX0.out.trans HY5.out).trans (by (repeat (first | with_reducible exact Ext.refl _ | with_reducible assumption | ((with_reducible apply Src.ext); with_reducible assumption) | with_reducible refine Ext.alloc ?_ _ | with_reducible refine Ext.drew ?_ | with_reducible refine Ext.drewN ?_ _ | ((with_reducible refine Ext.setCell' ?_ ?_ _); solve | omega | simp | (simp; omega)) | (with_reducible refine Ext.trans ?_ (by with_reducible assumption))))))).1 (H0.out _ ((HX0.out.trans HY5.out).trans (by (repeat (first | with_reducible exact Ext.refl _ | with_reducible assumption | ((with_reducible apply Src.ext); with_reducible assumption) | with_reducible refine Ext.alloc ?_ _ | with_reducible refine Ext.drew ?_ | with_reducible refine Ext.drewN ?_ _ | ((with_reducible refine Ext.setCell' ?_ ?_ _); solve | omega | simp | (simp; omega)) | (with_reducible refine Ext.trans ?_ (by with_reducible assumption))))))).2 HG.out).mono ?_; rintro e w6 ⟨q6, b6, d6, rfl, hq6, hp6, hW6, hx6⟩; have hs6 := hx6.size; have HQ6 := Lib.hid hq6; have HP6 := Lib.hid hp6; have HW6 := Lib.hid hW6; clear hq6 hp6 hW6) | (go_at_call 17; refine (l_eqWorld (HW3.out.ext ((HX34.out.trans HX5.out).trans (by (repeat (first | with_reducible exact Ext.refl _ | with_reducible assumption | ((with_reducible apply Src.ext); with_reducible assumption) | with_reducible refine Ext.alloc ?_ _ | with_reducible refine Ext.drew ?_ | with_reducible refine Ext.drewN ?_ _ | ((with_reducible refine Ext.setCell' ?_ ?_ _); solve | omega | simp | (simp; omega)) | (with_reducible refine Ext.trans ?_ (by with_reducible assumption))))))) (HW6.out.ext (by (repeat (first | with_reducible exact Ext.refl _ | with_reducible assumption | ((with_reducible apply Src.ext); with_reducible assumption) | with_reducible refine Ext.alloc ?_ _ | with_reducible refine Ext.drew ?_ | with_reducible refine Ext.drewN ?_ _ | ((with_reducible refine Ext.setCell' ?_ ?_ _); solve | omega | simp | (simp; omega)) | (with_reducible refine Ext.trans ?_ (by with_reducible assumption)))))) (HP3.out.trans HP6.out.symm) _ _ _ _ _ _ HQ3.out.symm rfl hl hl').mono ?_; rintro e w7 ⟨rfl, hx7⟩; have hs7 := hx7.size))
    have hX57 : Ext w5 w7 := by (repeat (first | with_reducible exact Ext.refl _ | with_reducible assumption | ((with_reducible apply Src.ext); with_reducible assumption) | with_reducible refine Ext.alloc ?_ _ | with_reducible refine Ext.drew ?_ | with_reducible refine Ext.drewN ?_ _ | ((with_reducible refine Ext.setCell' ?_ ?_ _); solve | omega | simp | (simp; omega)) | (with_reducible refine Ext.trans ?_ (by with_reducible assumption))))
    have hX47 : Ext w4 w7 := HX5.out.trans hX57
    have hY7 : Ext w0 w7 := HY5.out.trans hX57
    have hS27 := hS2.ext ((HX3.out.trans HX34.out).trans hX47)
    have hS47 := hS4.ext hX47
    have HO47 := Lib.hid (HO4.out.ext hX47)
    have HW37 := Lib.hid (HW3.out.ext (HX34.out.trans hX47))
    obtain ⟨gc7, gd7, ga7, gb7⟩ := HKK.out w7 hX57
    have HY7 := Lib.hid hY7
    clear HO4 hS4 hS2 gc5 gd5 ga5 gb5 hx6 hx7 hX57 hX47 hY7 hs6 hs7
    go_wp2_with fail
    refine (l_markWorld HW37.out _ _ _ _ HQ3.out.symm rfl hl hl').mono ?_
    rintro e w8 ⟨z8, rfl, hz8, hz9, hm8⟩
    have hz8' : ¬ ((z8 : Int) < 0) := by omega
    have HY8 := Lib.hid (hm8.ext HY7.out hs02)
    have hS28 := hS27.btw hm8 (fun q hq => .inl (HA2.out q hq).2)
    have hS48 := hS47.btw hm8 (fun q hq => .inr (by have := (HA4.out q hq).1; omega))
    have HO48 := Lib.hid (HO47.out.btw hm8 (by first | (simp; done) | (simp; omega) | omega))
    clear hm8 hS27 hS47 HO47 gc7 gd7 ga7 gb7
    go_wp2_with fail
    refine (l_eqI A4 A2 m c4' c2' (trR (psD ps) L x) _ hS48 hS28 HM.out (by omega)).mono ?_
    rintro e w9 ⟨rfl, hx9⟩
    have HO9 := Lib.hid (HO48.out.ext hx9)
    have hS29 := hS28.ext hx9
    have HY9 := Lib.hid (HY8.out.trans hx9)
    have hs03 : w0.heap.size ≤ w3.heap.size := Nat.le_trans hs02 hs23
    clear HO48 hS28 hS48 hx9
    go_wp2_with fail
    refine (l_markI _ _ _ m 1 _ HO9.out HM.out (by omega) (by omega) (by omega)).mono ?_
    rintro e w10 ⟨rfl, hO10, hg10⟩
    have HY10 := Lib.hid (HY9.out.grown hg10 (fun q hq => by have := (HO9.out.row q hq).1; (try simp only [World.size_alloc] at this); omega))
    have hS210 := hS29.grown hg10 (by intro q hq he; have := (HA2.out q hq).2; have := (HO9.out.row _ he.symm).1; (try simp only [World.size_alloc] at this); omega)
    obtain ⟨_, _, e', hS410, _⟩ := hO10.sl len_encI
    injection e' with ea eb ec
    subst ea
    clear hg10 hS29 HO9 eb ec hO10
    go_wp2_with fail
    refine (l_heldI _ m _ 1 _ hS410 (by omega) (by omega) (by omega)).mono ?_
    rintro e w11 ⟨rfl, hxe⟩
    have hx11 : Ext w10 w11 := hxe ▸ Ext.refl _
    clear hxe
    have HX11 := Lib.hid hx11
    have HY11 := Lib.hid (HY10.out.trans hx11)
    clear hx11
    obtain ⟨ga12, gb12⟩ := HBX.out _ (HY11.out)
    go_wp2_with fail
    refine (l_toWorld _ _ _ _ ps L _ ((H0.out _ (HX0.out.trans HY11.out)).1) ((H0.out _ (HX0.out.trans HY11.out)).2) HG.out).mono ?_
    rintro e w12 ⟨q12, b12, d12, rfl, hq12, hp12, hW12, hx12⟩
    have HQ12 := Lib.hid hq12
    have HP12 := Lib.hid hp12
    have HW12 := Lib.hid hW12
    clear hq12 hp12 hW12 ga12 gb12
    have HX12 := Lib.hid hx12
    have HY12 := Lib.hid (HY11.out.trans hx12)
    clear hx12
    go_wp2_with fail
    refine (HI.out _ q12 b12 d12 HP12.out ((HW12.out.ext (Ext.refl _)).win HQ12.out.symm hl rfl hl' hg4.out) (HX0.out.trans HY12.out)).mono ?_
    rintro e w13 ⟨v13, rfl, hO13, hx13⟩
    have HO13 := Lib.hid hO13
    obtain ⟨A13, c13', rfl, hS13, _, _, hA13⟩ := hO13.sl len_encI
    rw [← HM.out] at HO13 ⊢
    have HA13 := Lib.hid hA13
    clear hO13 hA13
    go_wp2_with fail
    refine (l_eqI A13 A2 m c13' c2' (trR (psD ps) L x) _ hS13 (hS210.ext ((HX11.out.trans HX12.out).trans hx13)) HM.out (by omega)).mono ?_
    rintro e w14 ⟨rfl, hx14⟩
    go_wp2_with fail
    refine (l_heldI _ m _ 1 _ (hS410.ext (((HX11.out.trans HX12.out).trans hx13).trans hx14)) (by omega) (by omega) (by omega)).mono ?_
    rintro e w15 ⟨rfl, hxe⟩
    have hx15 : Ext w14 w15 := hxe ▸ Ext.refl _
    clear hxe
    go_wp2
    go_ret
    exact ⟨rfl, (((HX0.out.trans HY12.out).trans hx13).trans hx14).trans hx15⟩

end Go.Proofs.YtapfokfbdmcokaaGreatDoor
