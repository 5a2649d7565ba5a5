/- The law of reading a ring, walked over the translation. -/
import Derived.Test.YtacpimajiojekaaDoorTM
import Derived.Deep.RegionHeld3
import Derived.Deep.DeepCutAuto
import Derived.RegionTactic
import Derived.BigRegion
import Derived.WalkLawsBesides
import Derived.WalkSpells
import Derived.Lib.MinMax
import Derived.Outline
namespace Go.Proofs.YtacpimajiojekaaDoor
open Go.RowKit
attribute [local go_sem] ExtOf.cell ExtOf.frozen

set_option maxRecDepth 20000 in
set_option maxHeartbeats 6400000 in
theorem fnExactReadRing_walk (s : ByteArray) (w : World) (_hs : s.size ≤ maxLen) (hL : Ld w) :
    Calls Tryd.prog 7 #[.string s] w fun e w' => e = .returned (.bool true) ∧ Ext w w' := by
  by_cases hl : s.size ≤ 1048576
  · have HT := Lib.hid hL
    have HS := Lib.hid fun W => s_ReadRing s W hl
    have HI := Lib.hid fun W h => i_ReadRing s W hl h
    have hnl := rrL_len (l := s.data.toList) (by rw [size_list]; exact hl)
    generalize rrL s.data.toList = R at *
    generalize rrC s.data.toList = C at *
    obtain ⟨m, hm⟩ : ∃ m, m = R.length := ⟨_, rfl⟩
    have HM := Lib.hid hm
    have hml : m ≤ 1048576 := by omega
    have hm0 : ¬ ((1 : Int) + 2 * (m : Int) < 0) := by omega
    have hm1 : ((1 : Int) + 2 * (m : Int) != 1 + 2 * (m : Int)) = false := by simp
    have hcc : (C != C) = false := by simp
    clear hm hnl hL
    go_enter Tryd.func7, Tryd.ntmps7
    go_wp2_with fail
    refine (HS.out _).mono ?_
    rintro e w2 ⟨v2, rfl, hO2, hx2⟩
    have hs2 := hx2.size
    (try simp at hs2)
    obtain ⟨A2, c2, rfl, hS2, _, _, hA2⟩ := hO2.sl len_encP
    rw [← HM.out]
    clear hO2
    go_wp2_with fail
    refine (HI.out _ (HT.out.ext (by (repeat (first | with_reducible exact Ext.refl _ | with_reducible assumption | ((with_reducible apply Src.ext); with_reducible assumption) | with_reducible refine Ext.alloc ?_ _ | with_reducible refine Ext.drew ?_ | with_reducible refine Ext.drewN ?_ _ | ((with_reducible refine Ext.setCell' ?_ ?_ _); solve | omega | simp | (simp; omega)) | (with_reducible refine Ext.trans ?_ (by with_reducible assumption))))))).mono ?_
    rintro e w4 ⟨v4, rfl, hO4, hx4⟩
    have hs4 := hx4.size
    (try simp at hs4)
    have HO4 := Lib.hid hO4
    obtain ⟨A4, c4, rfl, hS4, _, _, hA4⟩ := hO4.sl len_encP
    rw [← HM.out] at HO4 ⊢
    clear hO4
    (go_wp2_with fail; refine (l_eqP A4 A2 m c4 c2 R _ hS4 (hS2.ext (by (repeat (first | with_reducible exact Ext.refl _ | with_reducible assumption | ((with_reducible apply Src.ext); with_reducible assumption) | with_reducible refine Ext.alloc ?_ _ | with_reducible refine Ext.drew ?_ | with_reducible refine Ext.drewN ?_ _ | ((with_reducible refine Ext.setCell' ?_ ?_ _); solve | omega | simp | (simp; omega)) | (with_reducible refine Ext.trans ?_ (by with_reducible assumption)))))) HM.out hml).mono ?_; rintro e w5 ⟨rfl, hx5⟩; obtain ⟨hc5, hf5⟩ := hx5.rules; have hs5 := hx5.size; (try simp at hs5))
    have hX5 : Ext w w5 := by (repeat (first | with_reducible exact Ext.refl _ | with_reducible assumption | ((with_reducible apply Src.ext); with_reducible assumption) | with_reducible refine Ext.alloc ?_ _ | with_reducible refine Ext.drew ?_ | with_reducible refine Ext.drewN ?_ _ | ((with_reducible refine Ext.setCell' ?_ ?_ _); solve | omega | simp | (simp; omega)) | (with_reducible refine Ext.trans ?_ (by with_reducible assumption))))
    have HO5 := Lib.hid (HO4.out.ext hx5)
    have hS25 : SlAt w5 2 encP A2 R := hS2.ext (hx4.trans hx5)
    clear HO4 hS2 hS4
    go_wp2_with fail
    refine (l_markP _ _ _ m 1 _ HO5.out HM.out hml (by omega) (by omega)).mono ?_
    rintro e w10 ⟨rfl, hO10, hg10⟩
    have hX10 : Ext w w10 := hX5.grown hg10 (fun q hq => by have := (HO5.out.row q hq).1; omega)
    have hS210 := hS25.grown hg10 (by intro q hq he; have := hA2 q hq; have := (HO5.out.row _ he.symm).1; omega)
    obtain ⟨_, _, e', hS410, _⟩ := hO10.sl len_encP
    injection e' with ea eb ec
    subst ea
    have hsz10 := hg10.size
    clear hg10 hS25 HO5 eb ec
    (go_wp2_with fail; refine (l_heldPointS _ m _ 1 _ hS410 hml (by omega) (by omega)).mono ?_; rintro e w' ⟨rfl, rfl⟩)
    go_wp2_with fail
    refine (HI.out _ (HT.out.ext hX10)).mono ?_
    rintro e w12 ⟨v12, rfl, hO12, hx12⟩
    obtain ⟨A12, c12, rfl, hS12, _, _, hA12⟩ := hO12.sl len_encP
    rw [← HM.out]
    clear hO12
    (go_wp2_with fail; refine (l_eqP A12 A2 m c12 c2 R _ hS12 (hS210.ext hx12) HM.out hml).mono ?_; rintro e w13 ⟨rfl, hx13⟩; obtain ⟨hc13, hf13⟩ := hx13.rules; have hs13 := hx13.size; (try simp at hs13))
    (go_wp2_with fail; refine (l_heldPointS _ m _ 1 _ ((hS410.ext hx12).ext hx13) hml (by omega) (by omega)).mono ?_; rintro e w' ⟨rfl, rfl⟩)
    go_wp2
    go_ret
    exact ⟨rfl, (hX10.trans hx12).trans hx13⟩
  · clear hL
    go_enter Tryd.func7, Tryd.ntmps7
    go_wp2
    go_ret
    exact ⟨rfl, by (repeat (first | with_reducible exact Ext.refl _ | with_reducible assumption | ((with_reducible apply Src.ext); with_reducible assumption) | with_reducible refine Ext.alloc ?_ _ | with_reducible refine Ext.drew ?_ | with_reducible refine Ext.drewN ?_ _ | ((with_reducible refine Ext.setCell' ?_ ?_ _); solve | omega | simp | (simp; omega)) | (with_reducible refine Ext.trans ?_ (by with_reducible assumption))))⟩

end Go.Proofs.YtacpimajiojekaaDoor
