/- Contracts of the the walk of FnTurns, walked over the translation. -/
import Derived.Test.YthhkmkhilnglkaaFT
import Derived.Deep.RegionHeld3
import Derived.Deep.DeepCutAuto
import Derived.RegionTactic
import Derived.BigRegion
import Derived.WalkLawsBesides
import Derived.WalkSpells
import Derived.Lib.MinMax
import Derived.Outline
namespace Go.Proofs.Ythhkmkhilnglkaa
open Go.RowKit
attribute [local go_sem] ExtOf.cell ExtOf.frozen








set_option maxRecDepth 20000 in
set_option maxHeartbeats 25600000 in
theorem fnTurns_walk (A : Option Addr) (c : Nat) (bs : List Int) (w : World) (h : SlAt w 1 encB A bs) (hb : ∀ b ∈ bs, 0 ≤ b ∧ b ≤ 255) :
    Calls Try.prog 7 #[.slice A bs.length c] w fun e w' => e = .returned (.bool true) ∧ Ext w w' := by
  have HB := Lib.hid hb
  clear hb
  by_cases hl : bs.length ≤ 4096
  · have hbg : ∀ W, Calls Try.prog 27 #[.slice A bs.length c] W fun e w' => e = .returned (.bool false) ∧ W = w' := fun W => by
      have := l_big A c bs.length W
      rwa [decide_eq_false (by omega)] at this
    have HG := Lib.hid hbg
    have HL := Lib.hid hl
    clear hbg hl
    go_enter Try.func7, Try.ntmps7
    (go_wp2_with fail; refine (HG.out _).mono ?_; rintro e w' ⟨rfl, rfl⟩)
    go_wp2_with fail
    refine (s_DrawTurnOf _ _ bs _ (h.ext (by (repeat (first | with_reducible exact Ext.refl _ | with_reducible assumption | ((with_reducible apply Src.ext); with_reducible assumption) | with_reducible refine Ext.alloc ?_ _ | with_reducible refine Ext.drew ?_ | with_reducible refine Ext.drewN ?_ _ | ((with_reducible refine Ext.setCell' ?_ ?_ _); solve | omega | simp | (simp; omega)) | (with_reducible refine Ext.trans ?_ (by with_reducible assumption)))))) HB.out HL.out).mono ?_
    rintro e w1 ⟨⟨ax, az⟩, ⟨bx, bz⟩, ⟨cx, cz⟩, rfl, hx1⟩
    obtain ⟨hc1, hf1⟩ := hx1.rules
    have hs1 := hx1.size
    (try simp at hs1)
    (go_wp2_with fail; refine (i_TurnOf _ _ _ _ _ _ _).mono ?_; rintro e w2 ⟨rfl, hx2⟩; obtain ⟨hc2, hf2⟩ := hx2.rules; have hs2 := hx2.size; (try simp at hs2); have := (show w1.heap.size < w2.heap.size from by omega); have := (show w1.heap.size + 1 < w2.heap.size from by omega); have := (show w1.heap.size + 1 + 1 < w2.heap.size from by omega))
    (go_wp2_with fail; refine (s_TurnOf _ _ _ _ _ _ _).mono ?_; rintro e w3 ⟨rfl, hx3⟩; obtain ⟨hc3, hf3⟩ := hx3.rules; have hs3 := hx3.size; (try simp at hs3); have := (show w1.heap.size < w3.heap.size from by omega); have := (show w1.heap.size + 1 < w3.heap.size from by omega); have := (show w1.heap.size + 1 + 1 < w3.heap.size from by omega))
    go_wp2_with fail
    refine (s_DrawDirectionOf _ _ bs _ (h.ext (by (repeat (first | with_reducible exact Ext.refl _ | with_reducible assumption | ((with_reducible apply Src.ext); with_reducible assumption) | with_reducible refine Ext.alloc ?_ _ | with_reducible refine Ext.drew ?_ | with_reducible refine Ext.drewN ?_ _ | ((with_reducible refine Ext.setCell' ?_ ?_ _); solve | omega | simp | (simp; omega)) | (with_reducible refine Ext.trans ?_ (by with_reducible assumption)))))) HB.out HL.out).mono ?_
    rintro e w4 ⟨⟨dx, dz⟩, ⟨ex, ez⟩, rfl, hx4⟩
    obtain ⟨hc4, hf4⟩ := hx4.rules
    have hs4 := hx4.size
    (try simp at hs4)
    have : w1.heap.size < w4.heap.size := by omega
    have : w1.heap.size < w4.heap.size + 1 := by omega
    have : w1.heap.size < w4.heap.size + 1 + 1 := by omega
    have : w1.heap.size + 1 < w4.heap.size := by omega
    have : w1.heap.size + 1 < w4.heap.size + 1 := by omega
    have : w1.heap.size + 1 < w4.heap.size + 1 + 1 := by omega
    have : w1.heap.size + 1 + 1 < w4.heap.size := by omega
    have : w1.heap.size + 1 + 1 < w4.heap.size + 1 := by omega
    have : w1.heap.size + 1 + 1 < w4.heap.size + 1 + 1 := by omega
    (go_wp2_with fail; refine (i_DirectionOf _ _ _ _ _).mono ?_; rintro e w5 ⟨rfl, hx5⟩; obtain ⟨hc5, hf5⟩ := hx5.rules; have hs5 := hx5.size; (try simp at hs5); have := (show w1.heap.size < w5.heap.size from by omega); have := (show w1.heap.size + 1 < w5.heap.size from by omega); have := (show w1.heap.size + 1 + 1 < w5.heap.size from by omega); have := (show w4.heap.size < w5.heap.size from by omega); have := (show w4.heap.size + 1 < w5.heap.size from by omega))
    (go_wp2_with fail; refine (s_DirectionOf _ _ _ _ _).mono ?_; rintro e w6 ⟨rfl, hx6⟩; obtain ⟨hc6, hf6⟩ := hx6.rules; have hs6 := hx6.size; (try simp at hs6); have := (show w1.heap.size < w6.heap.size from by omega); have := (show w1.heap.size + 1 < w6.heap.size from by omega); have := (show w1.heap.size + 1 + 1 < w6.heap.size from by omega); have := (show w4.heap.size < w6.heap.size from by omega); have := (show w4.heap.size + 1 < w6.heap.size from by omega))
    (go_wp2_with fail; refine (i_SquaredDistance _ _ _ _ _).mono ?_; rintro e w7 ⟨rfl, hx7⟩; obtain ⟨hc7, hf7⟩ := hx7.rules; have hs7 := hx7.size; (try simp at hs7); have := (show w1.heap.size < w7.heap.size from by omega); have := (show w1.heap.size + 1 < w7.heap.size from by omega); have := (show w1.heap.size + 1 + 1 < w7.heap.size from by omega); have := (show w4.heap.size < w7.heap.size from by omega); have := (show w4.heap.size + 1 < w7.heap.size from by omega))
    (go_wp2_with fail; refine (s_SquaredDistance _ _ _ _ _).mono ?_; rintro e w8 ⟨rfl, hx8⟩; obtain ⟨hc8, hf8⟩ := hx8.rules; have hs8 := hx8.size; (try simp at hs8); have := (show w1.heap.size < w8.heap.size from by omega); have := (show w1.heap.size + 1 < w8.heap.size from by omega); have := (show w1.heap.size + 1 + 1 < w8.heap.size from by omega); have := (show w4.heap.size < w8.heap.size from by omega); have := (show w4.heap.size + 1 < w8.heap.size from by omega))
    go_wp2_with fail
    refine (s_DrawIsOn _ _ bs _ (h.ext (by (repeat (first | with_reducible exact Ext.refl _ | with_reducible assumption | ((with_reducible apply Src.ext); with_reducible assumption) | with_reducible refine Ext.alloc ?_ _ | with_reducible refine Ext.drew ?_ | with_reducible refine Ext.drewN ?_ _ | ((with_reducible refine Ext.setCell' ?_ ?_ _); solve | omega | simp | (simp; omega)) | (with_reducible refine Ext.trans ?_ (by with_reducible assumption)))))) HB.out HL.out).mono ?_
    rintro e w9 ⟨⟨fx, fz⟩, ⟨gx, gz⟩, ⟨hhx, hhz⟩, rfl, hx9⟩
    obtain ⟨hc9, hf9⟩ := hx9.rules
    have hs9 := hx9.size
    (try simp at hs9)
    have : w1.heap.size < w9.heap.size := by omega
    have : w1.heap.size < w9.heap.size + 1 := by omega
    have : w1.heap.size < w9.heap.size + 1 + 1 := by omega
    have : w1.heap.size < w9.heap.size + 1 + 1 + 1 := by omega
    have : w1.heap.size + 1 < w9.heap.size := by omega
    have : w1.heap.size + 1 < w9.heap.size + 1 := by omega
    have : w1.heap.size + 1 < w9.heap.size + 1 + 1 := by omega
    have : w1.heap.size + 1 < w9.heap.size + 1 + 1 + 1 := by omega
    have : w1.heap.size + 1 + 1 < w9.heap.size := by omega
    have : w1.heap.size + 1 + 1 < w9.heap.size + 1 := by omega
    have : w1.heap.size + 1 + 1 < w9.heap.size + 1 + 1 := by omega
    have : w1.heap.size + 1 + 1 < w9.heap.size + 1 + 1 + 1 := by omega
    have : w4.heap.size < w9.heap.size := by omega
    have : w4.heap.size < w9.heap.size + 1 := by omega
    have : w4.heap.size < w9.heap.size + 1 + 1 := by omega
    have : w4.heap.size < w9.heap.size + 1 + 1 + 1 := by omega
    have : w4.heap.size + 1 < w9.heap.size := by omega
    have : w4.heap.size + 1 < w9.heap.size + 1 := by omega
    have : w4.heap.size + 1 < w9.heap.size + 1 + 1 := by omega
    have : w4.heap.size + 1 < w9.heap.size + 1 + 1 + 1 := by omega
    (go_wp2_with fail; refine (i_IsOn _ _ _ _ _ _ _).mono ?_; rintro e w10 ⟨rfl, hx10⟩; obtain ⟨hc10, hf10⟩ := hx10.rules; have hs10 := hx10.size; (try simp at hs10); have := (show w1.heap.size < w10.heap.size from by omega); have := (show w1.heap.size + 1 < w10.heap.size from by omega); have := (show w1.heap.size + 1 + 1 < w10.heap.size from by omega); have := (show w4.heap.size < w10.heap.size from by omega); have := (show w4.heap.size + 1 < w10.heap.size from by omega); have := (show w9.heap.size < w10.heap.size from by omega); have := (show w9.heap.size + 1 < w10.heap.size from by omega); have := (show w9.heap.size + 1 + 1 < w10.heap.size from by omega))
    (go_wp2_with fail; refine (s_IsOn _ _ _ _ _ _ _).mono ?_; rintro e w11 ⟨rfl, hx11⟩; obtain ⟨hc11, hf11⟩ := hx11.rules; have hs11 := hx11.size; (try simp at hs11); have := (show w1.heap.size < w11.heap.size from by omega); have := (show w1.heap.size + 1 < w11.heap.size from by omega); have := (show w1.heap.size + 1 + 1 < w11.heap.size from by omega); have := (show w4.heap.size < w11.heap.size from by omega); have := (show w4.heap.size + 1 < w11.heap.size from by omega); have := (show w9.heap.size < w11.heap.size from by omega); have := (show w9.heap.size + 1 < w11.heap.size from by omega); have := (show w9.heap.size + 1 + 1 < w11.heap.size from by omega))
    go_wp2_with fail
    refine (s_DrawDoCross _ _ bs _ (h.ext (by (repeat (first | with_reducible exact Ext.refl _ | with_reducible assumption | ((with_reducible apply Src.ext); with_reducible assumption) | with_reducible refine Ext.alloc ?_ _ | with_reducible refine Ext.drew ?_ | with_reducible refine Ext.drewN ?_ _ | ((with_reducible refine Ext.setCell' ?_ ?_ _); solve | omega | simp | (simp; omega)) | (with_reducible refine Ext.trans ?_ (by with_reducible assumption)))))) HB.out HL.out).mono ?_
    rintro e w12 ⟨⟨ix, iz⟩, ⟨jx, jz⟩, ⟨kx, kz⟩, ⟨lx, lz⟩, rfl, hx12⟩
    obtain ⟨hc12, hf12⟩ := hx12.rules
    have hs12 := hx12.size
    (try simp at hs12)
    have : w1.heap.size < w12.heap.size := by omega
    have : w1.heap.size < w12.heap.size + 1 := by omega
    have : w1.heap.size < w12.heap.size + 1 + 1 := by omega
    have : w1.heap.size < w12.heap.size + 1 + 1 + 1 := by omega
    have : w1.heap.size < w12.heap.size + 1 + 1 + 1 + 1 := by omega
    have : w1.heap.size + 1 < w12.heap.size := by omega
    have : w1.heap.size + 1 < w12.heap.size + 1 := by omega
    have : w1.heap.size + 1 < w12.heap.size + 1 + 1 := by omega
    have : w1.heap.size + 1 < w12.heap.size + 1 + 1 + 1 := by omega
    have : w1.heap.size + 1 < w12.heap.size + 1 + 1 + 1 + 1 := by omega
    have : w1.heap.size + 1 + 1 < w12.heap.size := by omega
    have : w1.heap.size + 1 + 1 < w12.heap.size + 1 := by omega
    have : w1.heap.size + 1 + 1 < w12.heap.size + 1 + 1 := by omega
    have : w1.heap.size + 1 + 1 < w12.heap.size + 1 + 1 + 1 := by omega
    have : w1.heap.size + 1 + 1 < w12.heap.size + 1 + 1 + 1 + 1 := by omega
    have : w4.heap.size < w12.heap.size := by omega
    have : w4.heap.size < w12.heap.size + 1 := by omega
    have : w4.heap.size < w12.heap.size + 1 + 1 := by omega
    have : w4.heap.size < w12.heap.size + 1 + 1 + 1 := by omega
    have : w4.heap.size < w12.heap.size + 1 + 1 + 1 + 1 := by omega
    have : w4.heap.size + 1 < w12.heap.size := by omega
    have : w4.heap.size + 1 < w12.heap.size + 1 := by omega
    have : w4.heap.size + 1 < w12.heap.size + 1 + 1 := by omega
    have : w4.heap.size + 1 < w12.heap.size + 1 + 1 + 1 := by omega
    have : w4.heap.size + 1 < w12.heap.size + 1 + 1 + 1 + 1 := by omega
    have : w9.heap.size < w12.heap.size := by omega
    have : w9.heap.size < w12.heap.size + 1 := by omega
    have : w9.heap.size < w12.heap.size + 1 + 1 := by omega
    have : w9.heap.size < w12.heap.size + 1 + 1 + 1 := by omega
    have : w9.heap.size < w12.heap.size + 1 + 1 + 1 + 1 := by omega
    have : w9.heap.size + 1 < w12.heap.size := by omega
    have : w9.heap.size + 1 < w12.heap.size + 1 := by omega
    have : w9.heap.size + 1 < w12.heap.size + 1 + 1 := by omega
    have : w9.heap.size + 1 < w12.heap.size + 1 + 1 + 1 := by omega
    have : w9.heap.size + 1 < w12.heap.size + 1 + 1 + 1 + 1 := by omega
    have : w9.heap.size + 1 + 1 < w12.heap.size := by omega
    have : w9.heap.size + 1 + 1 < w12.heap.size + 1 := by omega
    have : w9.heap.size + 1 + 1 < w12.heap.size + 1 + 1 := by omega
    have : w9.heap.size + 1 + 1 < w12.heap.size + 1 + 1 + 1 := by omega
    have : w9.heap.size + 1 + 1 < w12.heap.size + 1 + 1 + 1 + 1 := by omega
    (go_wp2_with fail; refine (i_DoCross _ _ _ _ _ _ _ _ _).mono ?_; rintro e w13 ⟨rfl, hx13⟩; obtain ⟨hc13, hf13⟩ := hx13.rules; have hs13 := hx13.size; (try simp at hs13); have := (show w1.heap.size < w13.heap.size from by omega); have := (show w1.heap.size + 1 < w13.heap.size from by omega); have := (show w1.heap.size + 1 + 1 < w13.heap.size from by omega); have := (show w4.heap.size < w13.heap.size from by omega); have := (show w4.heap.size + 1 < w13.heap.size from by omega); have := (show w9.heap.size < w13.heap.size from by omega); have := (show w9.heap.size + 1 < w13.heap.size from by omega); have := (show w9.heap.size + 1 + 1 < w13.heap.size from by omega); have := (show w12.heap.size < w13.heap.size from by omega); have := (show w12.heap.size + 1 < w13.heap.size from by omega); have := (show w12.heap.size + 1 + 1 < w13.heap.size from by omega); have := (show w12.heap.size + 1 + 1 + 1 < w13.heap.size from by omega))
    (go_wp2_with fail; refine (s_DoCross _ _ _ _ _ _ _ _ _).mono ?_; rintro e w14 ⟨rfl, hx14⟩; obtain ⟨hc14, hf14⟩ := hx14.rules; have hs14 := hx14.size; (try simp at hs14); have := (show w1.heap.size < w14.heap.size from by omega); have := (show w1.heap.size + 1 < w14.heap.size from by omega); have := (show w1.heap.size + 1 + 1 < w14.heap.size from by omega); have := (show w4.heap.size < w14.heap.size from by omega); have := (show w4.heap.size + 1 < w14.heap.size from by omega); have := (show w9.heap.size < w14.heap.size from by omega); have := (show w9.heap.size + 1 < w14.heap.size from by omega); have := (show w9.heap.size + 1 + 1 < w14.heap.size from by omega); have := (show w12.heap.size < w14.heap.size from by omega); have := (show w12.heap.size + 1 < w14.heap.size from by omega); have := (show w12.heap.size + 1 + 1 < w14.heap.size from by omega); have := (show w12.heap.size + 1 + 1 + 1 < w14.heap.size from by omega))
    by_cases hD : dirC dx dz ex ez = 0
    · obtain ⟨d1, d2, d3, d4⟩ := dirC_swap hD
      by_cases hK : crossC ix iz jx jz kx kz lx lz = 0
      · obtain ⟨k1, k2⟩ := cross_swap hK
        by_cases hT : okC [(ax, az), (bx, bz), (cx, cz)] = 0
        · obtain ⟨t1, t2, t3, t4, t5, t6⟩ := turnR_laws hT
          (go_wp2_with fail; refine (i_DirectionOf _ _ _ _ _).mono ?_; rintro e w15 ⟨rfl, hx15⟩; obtain ⟨hc15, hf15⟩ := hx15.rules; have hs15 := hx15.size; (try simp at hs15); have := (show w1.heap.size < w15.heap.size from by omega); have := (show w1.heap.size + 1 < w15.heap.size from by omega); have := (show w1.heap.size + 1 + 1 < w15.heap.size from by omega); have := (show w4.heap.size < w15.heap.size from by omega); have := (show w4.heap.size + 1 < w15.heap.size from by omega); have := (show w9.heap.size < w15.heap.size from by omega); have := (show w9.heap.size + 1 < w15.heap.size from by omega); have := (show w9.heap.size + 1 + 1 < w15.heap.size from by omega); have := (show w12.heap.size < w15.heap.size from by omega); have := (show w12.heap.size + 1 < w15.heap.size from by omega); have := (show w12.heap.size + 1 + 1 < w15.heap.size from by omega); have := (show w12.heap.size + 1 + 1 + 1 < w15.heap.size from by omega))
          (go_wp2_with fail; refine (i_DoCross _ _ _ _ _ _ _ _ _).mono ?_; rintro e w16 ⟨rfl, hx16⟩; obtain ⟨hc16, hf16⟩ := hx16.rules; have hs16 := hx16.size; (try simp at hs16); have := (show w1.heap.size < w16.heap.size from by omega); have := (show w1.heap.size + 1 < w16.heap.size from by omega); have := (show w1.heap.size + 1 + 1 < w16.heap.size from by omega); have := (show w4.heap.size < w16.heap.size from by omega); have := (show w4.heap.size + 1 < w16.heap.size from by omega); have := (show w9.heap.size < w16.heap.size from by omega); have := (show w9.heap.size + 1 < w16.heap.size from by omega); have := (show w9.heap.size + 1 + 1 < w16.heap.size from by omega); have := (show w12.heap.size < w16.heap.size from by omega); have := (show w12.heap.size + 1 < w16.heap.size from by omega); have := (show w12.heap.size + 1 + 1 < w16.heap.size from by omega); have := (show w12.heap.size + 1 + 1 + 1 < w16.heap.size from by omega))
          (go_wp2_with fail; refine (i_TurnOf _ _ _ _ _ _ _).mono ?_; rintro e w17 ⟨rfl, hx17⟩; obtain ⟨hc17, hf17⟩ := hx17.rules; have hs17 := hx17.size; (try simp at hs17); have := (show w1.heap.size < w17.heap.size from by omega); have := (show w1.heap.size + 1 < w17.heap.size from by omega); have := (show w1.heap.size + 1 + 1 < w17.heap.size from by omega); have := (show w4.heap.size < w17.heap.size from by omega); have := (show w4.heap.size + 1 < w17.heap.size from by omega); have := (show w9.heap.size < w17.heap.size from by omega); have := (show w9.heap.size + 1 < w17.heap.size from by omega); have := (show w9.heap.size + 1 + 1 < w17.heap.size from by omega); have := (show w12.heap.size < w17.heap.size from by omega); have := (show w12.heap.size + 1 < w17.heap.size from by omega); have := (show w12.heap.size + 1 + 1 < w17.heap.size from by omega); have := (show w12.heap.size + 1 + 1 + 1 < w17.heap.size from by omega))
          (go_wp2_with fail; refine (i_TurnOf _ _ _ _ _ _ _).mono ?_; rintro e w18 ⟨rfl, hx18⟩; obtain ⟨hc18, hf18⟩ := hx18.rules; have hs18 := hx18.size; (try simp at hs18); have := (show w1.heap.size < w18.heap.size from by omega); have := (show w1.heap.size + 1 < w18.heap.size from by omega); have := (show w1.heap.size + 1 + 1 < w18.heap.size from by omega); have := (show w4.heap.size < w18.heap.size from by omega); have := (show w4.heap.size + 1 < w18.heap.size from by omega); have := (show w9.heap.size < w18.heap.size from by omega); have := (show w9.heap.size + 1 < w18.heap.size from by omega); have := (show w9.heap.size + 1 + 1 < w18.heap.size from by omega); have := (show w12.heap.size < w18.heap.size from by omega); have := (show w12.heap.size + 1 < w18.heap.size from by omega); have := (show w12.heap.size + 1 + 1 < w18.heap.size from by omega); have := (show w12.heap.size + 1 + 1 + 1 < w18.heap.size from by omega))
          go_wp2
          go_ret
          exact ⟨rfl, by (repeat (first | with_reducible exact Ext.refl _ | with_reducible assumption | ((with_reducible apply Src.ext); with_reducible assumption) | with_reducible refine Ext.alloc ?_ _ | with_reducible refine Ext.drew ?_ | with_reducible refine Ext.drewN ?_ _ | ((with_reducible refine Ext.setCell' ?_ ?_ _); solve | omega | simp | (simp; omega)) | (with_reducible refine Ext.trans ?_ (by with_reducible assumption))))⟩
        · skip
          have hTe : (okC [(ax, az), (bx, bz), (cx, cz)] == 0) = false := beq_eq_false_iff_ne.2 hT
          have hTn : (okC [(ax, az), (bx, bz), (cx, cz)] != 0) = true := bne_iff_ne.2 hT
          clear hT
          (go_wp2_with fail; refine (i_DirectionOf _ _ _ _ _).mono ?_; rintro e w15 ⟨rfl, hx15⟩; obtain ⟨hc15, hf15⟩ := hx15.rules; have hs15 := hx15.size; (try simp at hs15); have := (show w1.heap.size < w15.heap.size from by omega); have := (show w1.heap.size + 1 < w15.heap.size from by omega); have := (show w1.heap.size + 1 + 1 < w15.heap.size from by omega); have := (show w4.heap.size < w15.heap.size from by omega); have := (show w4.heap.size + 1 < w15.heap.size from by omega); have := (show w9.heap.size < w15.heap.size from by omega); have := (show w9.heap.size + 1 < w15.heap.size from by omega); have := (show w9.heap.size + 1 + 1 < w15.heap.size from by omega); have := (show w12.heap.size < w15.heap.size from by omega); have := (show w12.heap.size + 1 < w15.heap.size from by omega); have := (show w12.heap.size + 1 + 1 < w15.heap.size from by omega); have := (show w12.heap.size + 1 + 1 + 1 < w15.heap.size from by omega))
          (go_wp2_with fail; refine (i_DoCross _ _ _ _ _ _ _ _ _).mono ?_; rintro e w16 ⟨rfl, hx16⟩; obtain ⟨hc16, hf16⟩ := hx16.rules; have hs16 := hx16.size; (try simp at hs16); have := (show w1.heap.size < w16.heap.size from by omega); have := (show w1.heap.size + 1 < w16.heap.size from by omega); have := (show w1.heap.size + 1 + 1 < w16.heap.size from by omega); have := (show w4.heap.size < w16.heap.size from by omega); have := (show w4.heap.size + 1 < w16.heap.size from by omega); have := (show w9.heap.size < w16.heap.size from by omega); have := (show w9.heap.size + 1 < w16.heap.size from by omega); have := (show w9.heap.size + 1 + 1 < w16.heap.size from by omega); have := (show w12.heap.size < w16.heap.size from by omega); have := (show w12.heap.size + 1 < w16.heap.size from by omega); have := (show w12.heap.size + 1 + 1 < w16.heap.size from by omega); have := (show w12.heap.size + 1 + 1 + 1 < w16.heap.size from by omega))
          go_wp2
          go_ret
          exact ⟨rfl, by (repeat (first | with_reducible exact Ext.refl _ | with_reducible assumption | ((with_reducible apply Src.ext); with_reducible assumption) | with_reducible refine Ext.alloc ?_ _ | with_reducible refine Ext.drew ?_ | with_reducible refine Ext.drewN ?_ _ | ((with_reducible refine Ext.setCell' ?_ ?_ _); solve | omega | simp | (simp; omega)) | (with_reducible refine Ext.trans ?_ (by with_reducible assumption))))⟩
      · skip
        have hKe : (crossC ix iz jx jz kx kz lx lz == 0) = false := beq_eq_false_iff_ne.2 hK
        have hKn : (crossC ix iz jx jz kx kz lx lz != 0) = true := bne_iff_ne.2 hK
        clear hK
        by_cases hT : okC [(ax, az), (bx, bz), (cx, cz)] = 0
        · obtain ⟨t1, t2, t3, t4, t5, t6⟩ := turnR_laws hT
          (go_wp2_with fail; refine (i_DirectionOf _ _ _ _ _).mono ?_; rintro e w15 ⟨rfl, hx15⟩; obtain ⟨hc15, hf15⟩ := hx15.rules; have hs15 := hx15.size; (try simp at hs15); have := (show w1.heap.size < w15.heap.size from by omega); have := (show w1.heap.size + 1 < w15.heap.size from by omega); have := (show w1.heap.size + 1 + 1 < w15.heap.size from by omega); have := (show w4.heap.size < w15.heap.size from by omega); have := (show w4.heap.size + 1 < w15.heap.size from by omega); have := (show w9.heap.size < w15.heap.size from by omega); have := (show w9.heap.size + 1 < w15.heap.size from by omega); have := (show w9.heap.size + 1 + 1 < w15.heap.size from by omega); have := (show w12.heap.size < w15.heap.size from by omega); have := (show w12.heap.size + 1 < w15.heap.size from by omega); have := (show w12.heap.size + 1 + 1 < w15.heap.size from by omega); have := (show w12.heap.size + 1 + 1 + 1 < w15.heap.size from by omega))
          (go_wp2_with fail; refine (i_TurnOf _ _ _ _ _ _ _).mono ?_; rintro e w17 ⟨rfl, hx17⟩; obtain ⟨hc17, hf17⟩ := hx17.rules; have hs17 := hx17.size; (try simp at hs17); have := (show w1.heap.size < w17.heap.size from by omega); have := (show w1.heap.size + 1 < w17.heap.size from by omega); have := (show w1.heap.size + 1 + 1 < w17.heap.size from by omega); have := (show w4.heap.size < w17.heap.size from by omega); have := (show w4.heap.size + 1 < w17.heap.size from by omega); have := (show w9.heap.size < w17.heap.size from by omega); have := (show w9.heap.size + 1 < w17.heap.size from by omega); have := (show w9.heap.size + 1 + 1 < w17.heap.size from by omega); have := (show w12.heap.size < w17.heap.size from by omega); have := (show w12.heap.size + 1 < w17.heap.size from by omega); have := (show w12.heap.size + 1 + 1 < w17.heap.size from by omega); have := (show w12.heap.size + 1 + 1 + 1 < w17.heap.size from by omega))
          (go_wp2_with fail; refine (i_TurnOf _ _ _ _ _ _ _).mono ?_; rintro e w18 ⟨rfl, hx18⟩; obtain ⟨hc18, hf18⟩ := hx18.rules; have hs18 := hx18.size; (try simp at hs18); have := (show w1.heap.size < w18.heap.size from by omega); have := (show w1.heap.size + 1 < w18.heap.size from by omega); have := (show w1.heap.size + 1 + 1 < w18.heap.size from by omega); have := (show w4.heap.size < w18.heap.size from by omega); have := (show w4.heap.size + 1 < w18.heap.size from by omega); have := (show w9.heap.size < w18.heap.size from by omega); have := (show w9.heap.size + 1 < w18.heap.size from by omega); have := (show w9.heap.size + 1 + 1 < w18.heap.size from by omega); have := (show w12.heap.size < w18.heap.size from by omega); have := (show w12.heap.size + 1 < w18.heap.size from by omega); have := (show w12.heap.size + 1 + 1 < w18.heap.size from by omega); have := (show w12.heap.size + 1 + 1 + 1 < w18.heap.size from by omega))
          go_wp2
          go_ret
          exact ⟨rfl, by (repeat (first | with_reducible exact Ext.refl _ | with_reducible assumption | ((with_reducible apply Src.ext); with_reducible assumption) | with_reducible refine Ext.alloc ?_ _ | with_reducible refine Ext.drew ?_ | with_reducible refine Ext.drewN ?_ _ | ((with_reducible refine Ext.setCell' ?_ ?_ _); solve | omega | simp | (simp; omega)) | (with_reducible refine Ext.trans ?_ (by with_reducible assumption))))⟩
        · skip
          have hTe : (okC [(ax, az), (bx, bz), (cx, cz)] == 0) = false := beq_eq_false_iff_ne.2 hT
          have hTn : (okC [(ax, az), (bx, bz), (cx, cz)] != 0) = true := bne_iff_ne.2 hT
          clear hT
          (go_wp2_with fail; refine (i_DirectionOf _ _ _ _ _).mono ?_; rintro e w15 ⟨rfl, hx15⟩; obtain ⟨hc15, hf15⟩ := hx15.rules; have hs15 := hx15.size; (try simp at hs15); have := (show w1.heap.size < w15.heap.size from by omega); have := (show w1.heap.size + 1 < w15.heap.size from by omega); have := (show w1.heap.size + 1 + 1 < w15.heap.size from by omega); have := (show w4.heap.size < w15.heap.size from by omega); have := (show w4.heap.size + 1 < w15.heap.size from by omega); have := (show w9.heap.size < w15.heap.size from by omega); have := (show w9.heap.size + 1 < w15.heap.size from by omega); have := (show w9.heap.size + 1 + 1 < w15.heap.size from by omega); have := (show w12.heap.size < w15.heap.size from by omega); have := (show w12.heap.size + 1 < w15.heap.size from by omega); have := (show w12.heap.size + 1 + 1 < w15.heap.size from by omega); have := (show w12.heap.size + 1 + 1 + 1 < w15.heap.size from by omega))
          go_wp2
          go_ret
          exact ⟨rfl, by (repeat (first | with_reducible exact Ext.refl _ | with_reducible assumption | ((with_reducible apply Src.ext); with_reducible assumption) | with_reducible refine Ext.alloc ?_ _ | with_reducible refine Ext.drew ?_ | with_reducible refine Ext.drewN ?_ _ | ((with_reducible refine Ext.setCell' ?_ ?_ _); solve | omega | simp | (simp; omega)) | (with_reducible refine Ext.trans ?_ (by with_reducible assumption))))⟩
    · skip
      have hDe : (dirC dx dz ex ez == 0) = false := beq_eq_false_iff_ne.2 hD
      have hDn : (dirC dx dz ex ez != 0) = true := bne_iff_ne.2 hD
      clear hD
      by_cases hK : crossC ix iz jx jz kx kz lx lz = 0
      · obtain ⟨k1, k2⟩ := cross_swap hK
        by_cases hT : okC [(ax, az), (bx, bz), (cx, cz)] = 0
        · obtain ⟨t1, t2, t3, t4, t5, t6⟩ := turnR_laws hT
          (go_wp2_with fail; refine (i_DoCross _ _ _ _ _ _ _ _ _).mono ?_; rintro e w16 ⟨rfl, hx16⟩; obtain ⟨hc16, hf16⟩ := hx16.rules; have hs16 := hx16.size; (try simp at hs16); have := (show w1.heap.size < w16.heap.size from by omega); have := (show w1.heap.size + 1 < w16.heap.size from by omega); have := (show w1.heap.size + 1 + 1 < w16.heap.size from by omega); have := (show w4.heap.size < w16.heap.size from by omega); have := (show w4.heap.size + 1 < w16.heap.size from by omega); have := (show w9.heap.size < w16.heap.size from by omega); have := (show w9.heap.size + 1 < w16.heap.size from by omega); have := (show w9.heap.size + 1 + 1 < w16.heap.size from by omega); have := (show w12.heap.size < w16.heap.size from by omega); have := (show w12.heap.size + 1 < w16.heap.size from by omega); have := (show w12.heap.size + 1 + 1 < w16.heap.size from by omega); have := (show w12.heap.size + 1 + 1 + 1 < w16.heap.size from by omega))
          (go_wp2_with fail; refine (i_TurnOf _ _ _ _ _ _ _).mono ?_; rintro e w17 ⟨rfl, hx17⟩; obtain ⟨hc17, hf17⟩ := hx17.rules; have hs17 := hx17.size; (try simp at hs17); have := (show w1.heap.size < w17.heap.size from by omega); have := (show w1.heap.size + 1 < w17.heap.size from by omega); have := (show w1.heap.size + 1 + 1 < w17.heap.size from by omega); have := (show w4.heap.size < w17.heap.size from by omega); have := (show w4.heap.size + 1 < w17.heap.size from by omega); have := (show w9.heap.size < w17.heap.size from by omega); have := (show w9.heap.size + 1 < w17.heap.size from by omega); have := (show w9.heap.size + 1 + 1 < w17.heap.size from by omega); have := (show w12.heap.size < w17.heap.size from by omega); have := (show w12.heap.size + 1 < w17.heap.size from by omega); have := (show w12.heap.size + 1 + 1 < w17.heap.size from by omega); have := (show w12.heap.size + 1 + 1 + 1 < w17.heap.size from by omega))
          (go_wp2_with fail; refine (i_TurnOf _ _ _ _ _ _ _).mono ?_; rintro e w18 ⟨rfl, hx18⟩; obtain ⟨hc18, hf18⟩ := hx18.rules; have hs18 := hx18.size; (try simp at hs18); have := (show w1.heap.size < w18.heap.size from by omega); have := (show w1.heap.size + 1 < w18.heap.size from by omega); have := (show w1.heap.size + 1 + 1 < w18.heap.size from by omega); have := (show w4.heap.size < w18.heap.size from by omega); have := (show w4.heap.size + 1 < w18.heap.size from by omega); have := (show w9.heap.size < w18.heap.size from by omega); have := (show w9.heap.size + 1 < w18.heap.size from by omega); have := (show w9.heap.size + 1 + 1 < w18.heap.size from by omega); have := (show w12.heap.size < w18.heap.size from by omega); have := (show w12.heap.size + 1 < w18.heap.size from by omega); have := (show w12.heap.size + 1 + 1 < w18.heap.size from by omega); have := (show w12.heap.size + 1 + 1 + 1 < w18.heap.size from by omega))
          go_wp2
          go_ret
          exact ⟨rfl, by (repeat (first | with_reducible exact Ext.refl _ | with_reducible assumption | ((with_reducible apply Src.ext); with_reducible assumption) | with_reducible refine Ext.alloc ?_ _ | with_reducible refine Ext.drew ?_ | with_reducible refine Ext.drewN ?_ _ | ((with_reducible refine Ext.setCell' ?_ ?_ _); solve | omega | simp | (simp; omega)) | (with_reducible refine Ext.trans ?_ (by with_reducible assumption))))⟩
        · skip
          have hTe : (okC [(ax, az), (bx, bz), (cx, cz)] == 0) = false := beq_eq_false_iff_ne.2 hT
          have hTn : (okC [(ax, az), (bx, bz), (cx, cz)] != 0) = true := bne_iff_ne.2 hT
          clear hT
          (go_wp2_with fail; refine (i_DoCross _ _ _ _ _ _ _ _ _).mono ?_; rintro e w16 ⟨rfl, hx16⟩; obtain ⟨hc16, hf16⟩ := hx16.rules; have hs16 := hx16.size; (try simp at hs16); have := (show w1.heap.size < w16.heap.size from by omega); have := (show w1.heap.size + 1 < w16.heap.size from by omega); have := (show w1.heap.size + 1 + 1 < w16.heap.size from by omega); have := (show w4.heap.size < w16.heap.size from by omega); have := (show w4.heap.size + 1 < w16.heap.size from by omega); have := (show w9.heap.size < w16.heap.size from by omega); have := (show w9.heap.size + 1 < w16.heap.size from by omega); have := (show w9.heap.size + 1 + 1 < w16.heap.size from by omega); have := (show w12.heap.size < w16.heap.size from by omega); have := (show w12.heap.size + 1 < w16.heap.size from by omega); have := (show w12.heap.size + 1 + 1 < w16.heap.size from by omega); have := (show w12.heap.size + 1 + 1 + 1 < w16.heap.size from by omega))
          go_wp2
          go_ret
          exact ⟨rfl, by (repeat (first | with_reducible exact Ext.refl _ | with_reducible assumption | ((with_reducible apply Src.ext); with_reducible assumption) | with_reducible refine Ext.alloc ?_ _ | with_reducible refine Ext.drew ?_ | with_reducible refine Ext.drewN ?_ _ | ((with_reducible refine Ext.setCell' ?_ ?_ _); solve | omega | simp | (simp; omega)) | (with_reducible refine Ext.trans ?_ (by with_reducible assumption))))⟩
      · skip
        have hKe : (crossC ix iz jx jz kx kz lx lz == 0) = false := beq_eq_false_iff_ne.2 hK
        have hKn : (crossC ix iz jx jz kx kz lx lz != 0) = true := bne_iff_ne.2 hK
        clear hK
        by_cases hT : okC [(ax, az), (bx, bz), (cx, cz)] = 0
        · obtain ⟨t1, t2, t3, t4, t5, t6⟩ := turnR_laws hT
          (go_wp2_with fail; refine (i_TurnOf _ _ _ _ _ _ _).mono ?_; rintro e w17 ⟨rfl, hx17⟩; obtain ⟨hc17, hf17⟩ := hx17.rules; have hs17 := hx17.size; (try simp at hs17); have := (show w1.heap.size < w17.heap.size from by omega); have := (show w1.heap.size + 1 < w17.heap.size from by omega); have := (show w1.heap.size + 1 + 1 < w17.heap.size from by omega); have := (show w4.heap.size < w17.heap.size from by omega); have := (show w4.heap.size + 1 < w17.heap.size from by omega); have := (show w9.heap.size < w17.heap.size from by omega); have := (show w9.heap.size + 1 < w17.heap.size from by omega); have := (show w9.heap.size + 1 + 1 < w17.heap.size from by omega); have := (show w12.heap.size < w17.heap.size from by omega); have := (show w12.heap.size + 1 < w17.heap.size from by omega); have := (show w12.heap.size + 1 + 1 < w17.heap.size from by omega); have := (show w12.heap.size + 1 + 1 + 1 < w17.heap.size from by omega))
          (go_wp2_with fail; refine (i_TurnOf _ _ _ _ _ _ _).mono ?_; rintro e w18 ⟨rfl, hx18⟩; obtain ⟨hc18, hf18⟩ := hx18.rules; have hs18 := hx18.size; (try simp at hs18); have := (show w1.heap.size < w18.heap.size from by omega); have := (show w1.heap.size + 1 < w18.heap.size from by omega); have := (show w1.heap.size + 1 + 1 < w18.heap.size from by omega); have := (show w4.heap.size < w18.heap.size from by omega); have := (show w4.heap.size + 1 < w18.heap.size from by omega); have := (show w9.heap.size < w18.heap.size from by omega); have := (show w9.heap.size + 1 < w18.heap.size from by omega); have := (show w9.heap.size + 1 + 1 < w18.heap.size from by omega); have := (show w12.heap.size < w18.heap.size from by omega); have := (show w12.heap.size + 1 < w18.heap.size from by omega); have := (show w12.heap.size + 1 + 1 < w18.heap.size from by omega); have := (show w12.heap.size + 1 + 1 + 1 < w18.heap.size from by omega))
          go_wp2
          go_ret
          exact ⟨rfl, by (repeat (first | with_reducible exact Ext.refl _ | with_reducible assumption | ((with_reducible apply Src.ext); with_reducible assumption) | with_reducible refine Ext.alloc ?_ _ | with_reducible refine Ext.drew ?_ | with_reducible refine Ext.drewN ?_ _ | ((with_reducible refine Ext.setCell' ?_ ?_ _); solve | omega | simp | (simp; omega)) | (with_reducible refine Ext.trans ?_ (by with_reducible assumption))))⟩
        · skip
          have hTe : (okC [(ax, az), (bx, bz), (cx, cz)] == 0) = false := beq_eq_false_iff_ne.2 hT
          have hTn : (okC [(ax, az), (bx, bz), (cx, cz)] != 0) = true := bne_iff_ne.2 hT
          clear hT
          go_wp2
          go_ret
          exact ⟨rfl, by (repeat (first | with_reducible exact Ext.refl _ | with_reducible assumption | ((with_reducible apply Src.ext); with_reducible assumption) | with_reducible refine Ext.alloc ?_ _ | with_reducible refine Ext.drew ?_ | with_reducible refine Ext.drewN ?_ _ | ((with_reducible refine Ext.setCell' ?_ ?_ _); solve | omega | simp | (simp; omega)) | (with_reducible refine Ext.trans ?_ (by with_reducible assumption))))⟩
  · have hbg : ∀ W, Calls Try.prog 27 #[.slice A bs.length c] W fun e w' => e = .returned (.bool true) ∧ W = w' := fun W => by
      have := l_big A c bs.length W
      rwa [decide_eq_true (by omega)] at this
    have HG := Lib.hid hbg
    clear hbg
    go_enter Try.func7, Try.ntmps7
    (go_wp2_with fail; refine (HG.out _).mono ?_; rintro e w' ⟨rfl, rfl⟩)
    go_wp2
    go_ret
    exact ⟨rfl, by (repeat (first | with_reducible exact Ext.refl _ | with_reducible assumption | ((with_reducible apply Src.ext); with_reducible assumption) | with_reducible refine Ext.alloc ?_ _ | with_reducible refine Ext.drew ?_ | with_reducible refine Ext.drewN ?_ _ | ((with_reducible refine Ext.setCell' ?_ ?_ _); solve | omega | simp | (simp; omega)) | (with_reducible refine Ext.trans ?_ (by with_reducible assumption))))⟩
end Go.Proofs.Ythhkmkhilnglkaa
