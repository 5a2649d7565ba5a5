/- The law of ChildrenIn, walked over the translation. -/
import Derived.Test.YtjjhhclaapifbaaDoorZH
import Derived.Test.YtjjhhclaapifbaaDoorZA
import Derived.Test.YtjjhhclaapifbaaDoorKW
import Derived.Deep.RegionHeld3
import Derived.Deep.DeepCutAuto
import Derived.RegionTactic
import Derived.BigRegion
import Derived.WalkLawsBesides
import Derived.WalkSpells
import Derived.Lib.MinMax
import Derived.Outline
namespace Go.Proofs.YtjjhhclaapifbaaDoor
open Go.RowKit
attribute [local go_sem] ExtOf.cell ExtOf.frozen


theorem chiR_len (L : List Lk) (x : List UInt8) (y : Int) : (chiR L x y).length ≤ 1000000 := by
  unfold chiR
  split
  · rename_i h
    have h1 := lks20 (lkC_zero h).1
    have h2 := pla_len L
    have h3 := List.length_filter_le (chiB L x y) (plaA L)
    omega
  · simp

set_option maxRecDepth 20000 in
set_option maxHeartbeats 12800000 in
theorem fnExactChildrenIn_walk (A : Option Addr) (c : Nat) (L : List Lk) (sx : ByteArray) (y : Int) (w : World) (h : ArgK w A L) (hsx : sx.size ≤ maxLen) :
    Calls Tryd.prog 4 #[.slice A L.length c, .string sx, .int .i64 y] w fun e w' => e = .returned (.bool true) ∧ Ext w w' := by
  unfold maxLen at hsx
  by_cases hox : 1048576 < sx.size
  · go_enter Tryd.func4, Tryd.ntmps4
    go_wp2
    go_ret
    exact ⟨rfl, by (repeat (first | with_reducible exact Ext.refl _ | with_reducible assumption | ((with_reducible apply Src.ext); with_reducible assumption) | with_reducible refine Ext.alloc ?_ _ | with_reducible refine Ext.drew ?_ | with_reducible refine Ext.drewN ?_ _ | ((with_reducible refine Ext.setCell' ?_ ?_ _); solve | omega | simp | (simp; omega)) | (with_reducible refine Ext.trans ?_ (by with_reducible assumption))))⟩
  obtain ⟨x, rfl⟩ : ∃ x : List UInt8, tx x = sx := ⟨sx.data.toList, rfl⟩
  have hszx := tx_size x
  have hlex : x.length ≤ 1048576 := by omega
  go_enter Tryd.func4, Tryd.ntmps4
  go_wp2_with fail
  refine (l_szLinkS _ _ _ L 1048576 _ h.sl rfl h.len h.can (by omega) (by omega)).mono ?_
  rintro e w0 ⟨⟨z, rfl, hz1, hz⟩, hx0⟩
  rcases hz with rfl | ⟨hz0, hl, hg⟩
  · go_wp2
    go_ret
    exact ⟨rfl, hx0⟩
  · have HG := Lib.hid hg
    obtain ⟨cd, hcd⟩ : ∃ cd, cd = lkC L [x] y := ⟨_, rfl⟩
    have HCD := Lib.hid hcd
    have hcc : (cd != cd) = false := by simp
    obtain ⟨m, hm⟩ : ∃ m, m = (chiR L x y).length := ⟨_, rfl⟩
    have hml : m ≤ 1000000 := by rw [hm]; exact chiR_len L x y
    have HM := Lib.hid hm
    have hm0 : ¬ (((1 + m : Nat) : Int) < 0) := by omega
    have hm1 : ((((1 + m : Nat) : Int)) != ((1 + m : Nat) : Int)) = false := by simp
    have HS : Hid (∀ (W : World) (A : Option Addr) (c : Nat) (_ : L.length ≤ c), SlAt W 4 encK A L → Calls Tryd.prog 14 #[.slice A L.length c, .string (tx x), .int .i64 y] W fun e w' => ∃ v, e = .returned (.tuple #[v, .int .i64 cd]) ∧ OwS w' W.heap.size v (chiR L x y) ∧ Ext W w') := Lib.hid (fun W A c hcp hS => by
      rw [HCD.out]
      exact s_ChildrenIn A L.length c L x y W hS rfl hl HG.out hlex)
    have HI : Hid (∀ (W : World) (A : Option Addr) (c : Nat) (_ : L.length ≤ c), SlAt W 4 encK A L → Calls Tryd.prog 15 #[.slice A L.length c, .string (tx x), .int .i64 y] W fun e w' => ∃ v, e = .returned (.tuple #[v, .int .i64 cd]) ∧ OwS w' W.heap.size v (chiR L x y) ∧ Ext W w') := Lib.hid (fun W A c hcp hS => by
      rw [HCD.out]
      exact i_ChildrenIn A L.length c L x y W hS rfl hl hcp HG.out hlex)
    clear hg hcd hm
    generalize tx x = tx at *
    go_wp2_with fail
    refine (l_toLinkS _ _ _ L _ (h.ext hx0).sl rfl hl).mono ?_
    rintro e w1 ⟨cs1, rfl, hB1, hc1, hx1⟩
    have HC1 := Lib.hid hc1
    have HB1 := Lib.hid hB1
    clear hc1 hB1
    go_wp2_with fail
    refine ((HS.out _ _ _ (Nat.le_refl _) (HB1.out.sl HC1.out len_encK))).mono ?_
    rintro e w2 ⟨v2, rfl, hO2, hx2⟩
    have HO2 := Lib.hid hO2
    obtain ⟨A2, c2, rfl, hS2, _, _, hA2⟩ := hO2.sl len_encS
    rw [← HM.out] at HO2 ⊢
    have HA2 := Lib.hid hA2
    clear hO2 hA2
    have hX2 := (hx0.trans hx1).trans hx2
    have hs2 : w.heap.size ≤ w2.heap.size := hX2.size
    go_wp2_with fail
    refine (l_toLinkS _ _ _ L _ (h.ext hX2).sl rfl hl).mono ?_
    rintro e w3 ⟨cs3, rfl, hB3, hc3, hx3⟩
    have HC3 := Lib.hid hc3
    have HB3 := Lib.hid hB3
    clear hc3 hB3
    go_wp2_with fail
    refine ((HI.out _ _ _ (Nat.le_refl _) (HB3.out.sl HC3.out len_encK))).mono ?_
    rintro e w4 ⟨v4, rfl, hO4, hx4⟩
    have HO4 := Lib.hid hO4
    obtain ⟨A4, c4, rfl, hS4, _, _, hA4⟩ := hO4.sl len_encS
    rw [← HM.out] at HO4 ⊢
    have HA4 := Lib.hid hA4
    clear hO4 hA4
    have hX4 := (hX2.trans hx3).trans hx4
    go_wp2_with fail
    refine (l_eqS A4 A2 m c4 c2 (chiR L x y) _ hS4 (hS2.ext (hx3.trans hx4)) HM.out (by omega)).mono ?_
    rintro e w5 ⟨rfl, hx5⟩
    have hX5 := hX4.trans hx5
    go_wp2_with fail
    refine (l_toLinkS _ _ _ L _ (h.ext hX5).sl rfl hl).mono ?_
    rintro e w6 ⟨cs6, rfl, hB6, hc6, hx6⟩
    have HC6 := Lib.hid hc6
    have HB6 := Lib.hid hB6
    clear hc6 hB6
    go_wp2_with fail
    refine (l_eqLinkS _ _ _ _ _ L _ ((((HB3.out.ext hx4).ext hx5).ext hx6).sl HC3.out len_encK) (HB6.out.sl HC6.out len_encK) rfl hl).mono ?_
    rintro e w7 ⟨rfl, hx7⟩
    have hX47 : Ext w4 w7 := (hx5.trans hx6).trans hx7
    have hX37 : Ext w3 w7 := hx4.trans hX47
    have hX27 : Ext w2 w7 := hx3.trans hX37
    have hX7 : Ext w w7 := hX2.trans hX27
    have hS27 := hS2.ext hX27
    have hS47 := hS4.ext hX47
    have HO47 := Lib.hid (HO4.out.ext hX47)
    have HB37 := Lib.hid (HB3.out.ext hX37)
    have hcs3 : cs3.size = L.length * 4 := by rw [← Array.length_toList, HC3.out, flatMap_len len_encK]
    have hb3 : w2.heap.size < w3.heap.size := HB3.out.lt
    have h37 := hX37.size
    clear HO4 hS4 hS2 HB3
    go_wp2_with fail
    refine (l_markLinkS _ _ _ 1 cs3 _ HB37.out hcs3 hl (by omega) (by omega)).mono ?_
    rintro e w8 ⟨rfl, _, hu8⟩
    have hz8 : ¬ (((1 + 4 * L.length : Nat) : Int) < 0) := by omega
    have hX8 : Ext w w8 := hu8.ext hX7 hs2
    have hS28 := hS27.butG hu8 (fun q hq => by have := HA2.out q hq; omega)
    have hS48 := hS47.butG hu8 (fun q hq => by have := HA4.out q hq; omega)
    have HO48 := Lib.hid (HO47.out.butG hu8 hb3)
    have h78 := hu8.size
    clear hu8 hS27 hS47 HO47 HB37
    go_wp2_with fail
    refine (l_eqS A4 A2 m c4 c2 (chiR L x y) _ hS48 hS28 HM.out (by omega)).mono ?_
    rintro e w9 ⟨rfl, hx9⟩
    have HO9 := Lib.hid (HO48.out.ext hx9)
    have hS29 := hS28.ext hx9
    have hX9 := hX8.trans hx9
    clear HO48 hS28 hS48
    go_wp2_with fail
    refine (l_markS _ _ _ m 1 _ HO9.out HM.out (by omega) (by omega) (by omega)).mono ?_
    rintro e w10 ⟨rfl, hO10, hg10⟩
    have hX10 : Ext w w10 := hX9.grown hg10 (fun q hq => by have := (HO9.out.row q hq).1; omega)
    have hS210 := hS29.grown hg10 (by intro q hq he; have := HA2.out q hq; have := (HO9.out.row _ he.symm).1; omega)
    obtain ⟨_, _, e', hS410, _⟩ := hO10.sl len_encS
    injection e' with ea eb ec
    subst ea
    clear hg10 hS29 HO9 eb ec hO10
    go_wp2_with fail
    refine (l_heldS _ m _ 1 _ hS410 (by omega) (by omega) (by omega)).mono ?_
    rintro e w11 ⟨rfl, hx11⟩
    have hX11 := hX10.trans hx11
    go_wp2_with fail
    refine (l_toLinkS _ _ _ L _ (h.ext hX11).sl rfl hl).mono ?_
    rintro e w12 ⟨cs12, rfl, hB12, hc12, hx12⟩
    have HC12 := Lib.hid hc12
    have HB12 := Lib.hid hB12
    clear hc12 hB12
    go_wp2_with fail
    refine ((HI.out _ _ _ (Nat.le_refl _) (HB12.out.sl HC12.out len_encK))).mono ?_
    rintro e w13 ⟨v13, rfl, hO13, hx13⟩
    have HO13 := Lib.hid hO13
    obtain ⟨A13, c13, rfl, hS13, _, _, hA13⟩ := hO13.sl len_encS
    rw [← HM.out] at HO13 ⊢
    have HA13 := Lib.hid hA13
    clear hO13 hA13
    go_wp2_with fail
    refine (l_eqS A13 A2 m c13 c2 (chiR L x y) _ hS13 (hS210.ext ((hx11.trans hx12).trans hx13)) HM.out (by omega)).mono ?_
    rintro e w14 ⟨rfl, hx14⟩
    go_wp2_with fail
    refine (l_heldS _ m _ 1 _ (hS410.ext (((hx11.trans hx12).trans hx13).trans hx14)) (by omega) (by omega) (by omega)).mono ?_
    rintro e w15 ⟨rfl, hx15⟩
    go_wp2
    go_ret
    exact ⟨rfl, (((hX11.trans hx12).trans hx13).trans hx14).trans hx15⟩

end Go.Proofs.YtjjhhclaapifbaaDoor
